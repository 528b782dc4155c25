/- Of the proof that VmKeeps holds: a key keeps its node, what traps leaves no trace. No condition. -/
import Derived.Test.YtblkblclmbhjiaaGreatL2
import Derived.Test.YtblkblclmbhjiaaGreatL6
import Derived.RangeFuncNested
import Derived.RangeFuncBound
import Derived.RangeFuncCalls
import Derived.RangeFuncLeaves
import Derived.Shelf.Abstract
import Derived.TacticsInMore
import Derived.LoopNIn
import Derived.LoopIn
set_option linter.unusedVariables false
set_option linter.unusedSimpArgs false
set_option maxHeartbeats 40000000
set_option maxRecDepth 100000
namespace Go.Proofs.YtblkblclmbhjiaaGreat.gP
open Go.RowKit ak Go.Shelf
attribute [local go_sem] Oper.semAt_some
def w_ (FB:List Nat) (W W':World):Prop:=∀k,k∈FB->W'.heap[k]? =W.heap[k]?
theorem w_.t {FB:List Nat} {A B C:World} (h:w_ FB A B) (k:w_ FB B C):w_ FB A C:=fun i hi=>(k i hi).trans (h i hi)
theorem w_.b {FB:List Nat} {w:World} (hl:∀k,k∈FB->k < w.heap.size) (W:World) (l:Nat) (o o':Obj) (hle:w.heap.size<=l) (_:W.heap[l]? =some o) (_:o.isCells=false) (_:o.isWalk=false):w_ FB W (W.putObj l o'):=
 fun k hk=>World.putObj_heap_other (by have:=hl k hk;omega)
def dJ:Value->List Nat
 | .slice (some a) _ _=>[a.block]
 |_=>[]
theorem zc.iK {w w':World} {base:Nat} {lv:Value} {L:List (Nat×Int)} (h:zc w base lv L) (hb:∀k,k∈dJ lv->w'.heap[k]? =w.heap[k]?) (hs:w.heap.size<=w'.heap.size):zc w' base lv L:=by
 rcases h with h|⟨g,cap,rfl,h1,h2,h3,h4⟩
 ·exact .inl h
 ·have e:=hb g (by simp [dJ]);refine .inr ⟨g,cap,rfl,h1,by omega,h3,fun i hi=>?_⟩;have c:∀o,w'.cell? (π g o)=w.cell? (π g o):=fun o=>World.cell?_of_block e;rw [c,c,c];exact h4 i hi
theorem zn (F:Fence) (n:Nat) (hf:F.fn 140) (mR:F.round=none) (hn:1<=n) (l B base:Nat) (lv:Value) (L:List (Nat×Int)) (hlen:L.length<=1099511627776) (J Jx:List (Nat×Int)->World->Prop) (KJ:Nat)
 (hJ:AbidesFrom KJ J)
 (hY:∀pre x W,J pre W->pre.length < L.length->YieldAt F (n - 1) Tryz.prog l #[.int .u64 x.1,ι x.2] W fun e W'=>
   (e= .returned (.bool true)/\J (pre++[x]) W'/\w_ (B::dJ lv) W W')\/(e= .returned (.bool false)/\Jx (pre++[x]) W'))
 (W:World) (hB:Boxed W B 195 lv) (hL:zc W base lv L) (h0:J [] W):
 CallsIn F n Tryz.prog 140 #[.func (.yield l) #[] #[],ρ B] W fun e W'=>(∃v,e= .returned v)/\
  ((∃ys,ys=L/\J ys W')\/(∃pre,pre <+:L/\Jx pre W')):=by
 refine callsIn_of_wp Tryz.func140 rfl hf ?_ mR;simp only [Tryz.ntmps140,List.size_toArray,List.length_cons,List.length_nil,Nat.reduceAdd,Nat.reduceSub,Array.replicate_succ,Array.replicate_zero,List.push_toArray,List.append_toArray,List.nil_append,List.cons_append];have su:=hB.cell;rcases hL with ⟨rfl,rfl⟩|⟨g,cap,rfl,C7,SN,bz,hc⟩
 ·gi_wp2
  gi_loopw [7] (fun i wr=>i=ι 0/\J [] wr) (fun i _=>0)
  case atStart=>exact ⟨rfl,h0⟩
  case round=>
   obtain ⟨rfl,hj⟩:=hrel
   gi_wp2
   go_end0;exact ⟨⟨_,rfl⟩,.inl ⟨_,rfl,hj⟩⟩
 ·have HC:=ae hc;have HB:=ae hB;clear hc hB
  gi_wp2
  gi_loopw [7] (fun i wr=>∃k:Nat,k<=L.length/\i=ι k/\J (L.take k) wr/\wr.heap[g]? =W.heap[g]?)
   (fun i _=>L.length - (intOf i).toNat)
  case atStart=>exact ⟨0,Nat.zero_le _,rfl,by simpa using h0,rfl⟩
  case round=>
   obtain ⟨k,hk,rfl,FV,rl⟩:=hrel;by_cases a8:k < L.length
   ·have Ra:∀o,wr.cell? (π g o)=W.cell? (π g o):=fun o=>World.cell?_of_block rl;obtain ⟨c0,c1,c2⟩:=HC.o k a8;rw [<-Ra] at c0 c1 c2;clear Ra;have Rb:J (L.take k) (wr.alloc (.cells #[.bool true,.int .u64 L[k].1,ι L[k].2] 199)):=hJ _ _ _ none FV (World.grownBy_alloc wr _ none) (fun r e=>by cases e);obtain ⟨fn,tmps,assign,body,hy,hR⟩:=hY _ L[k] _ Rb (by rw [List.length_take];omega);have ht:L.take k++[L[k]]=L.take (k+1):=by rw [List.take_succ_eq_append_getElem a8]
    have HT:=ae ht;have HG:=ae rl;clear ht rl Rb FV;generalize L[k]=x at*;have um:g < wr.heap.size:=aS c0
    gi_wp2
    refine hR.mono ?_;rintro e W3 (⟨rfl,Rc,iO⟩|⟨rfl,Bu⟩)
    ·have HK:=ae (iO g (by simp [dJ]));have HJ:=ae Rc;clear iO Rc
     gi_wp2
     go_roundw
     case rel=>exact ⟨k+1,by omega,by simp,by rw [<-HT.o];exact HJ.o,by rw [HK.o,Below.heap_alloc _ _ _ um];exact HG.o⟩
     case measure=>simp [intOf];omega
    ·have HJ:=ae Bu;clear Bu
     gi_wp2
     refine bodyPost_ret (results_none rfl _ _ _) rfl ?_;exact ⟨⟨_,rfl⟩,.inr ⟨_,by rw [HT.o];exact List.take_prefix _ _,HJ.o⟩⟩
   ·obtain rfl:k=L.length:=by omega
    have HJ:=ae FV;clear FV
    gi_wp2
    go_end0;exact ⟨⟨_,rfl⟩,.inl ⟨_,rfl,by have:=HJ.o;rwa [List.take_length] at this⟩⟩
theorem uX (F:Fence) (n:Nat) (hf:F.fn 140) (mR:F.round=none) (hn:1<=n) (B base:Nat) (lv:Value) (L:List (Nat×Int)) (hlen:L.length<=1099511627776)
 (W:World) (hB:Boxed W B 195 lv) (hL:zc W base lv L) (sr:∀k,k∈dJ lv->k < W.heap.size):
 SeqStopsK F n Tryz.prog 140 #[ρ B] (fun x:Nat×Int=>#[.int .u64 x.1,ι x.2]) (w_ (B::dJ lv)) (· =L) (· <+:L) L.length W:=by
 intro l J Jx W1 hW hJ hJx hY h0;have FU:Boxed W1 B 195 lv:=(hW.block B hB.lt).trans hB;have KK:zc W1 base lv L:=hL.iK (fun k hk=>hW.block k (sr k hk)) hW.size;exact zn F n hf mR hn l B base lv L hlen J Jx _ hJ hY W1 FU KK h0
end Go.Proofs.YtblkblclmbhjiaaGreat.gP
namespace Go.Proofs.YtblkblclmbhjiaaGreat.dT
open Go.RowKit ak.Vm Go.Shelf
open ak hiding aL an aj
open gP (w_ dJ)
attribute [local go_sem] Oper.semAt_some
def uY (w:World) (base:Nat) (lv:Value) (L:List (Nat×eW)):Prop:=
 (L=[]/\lv=ν)\/∃g cap,lv= .slice (some (π g 0)) L.length cap/\base<=g/\g < w.heap.size/\L≠[]/\
   ∀i (hi:i < L.length),w.cell? (π g (i*6))=some (ι L[i].1)/\w.cell? (π g (i*6+1))=some (.int .u64 L[i].2.key)/\w.cell? (π g (i*6+2))=some (ι (L[i].2.tg 0))/\
    w.cell? (π g (i*6+3))=some (ι (L[i].2.tg 1))/\w.cell? (π g (i*6+4))=some (ι (L[i].2.tg 2))/\w.cell? (π g (i*6+5))=some (ι (L[i].2.tg 3))
theorem uY.iK {w w':World} {base:Nat} {lv:Value} {L:List (Nat×eW)} (h:uY w base lv L) (hb:∀k,k∈dJ lv->w'.heap[k]? =w.heap[k]?) (hs:w.heap.size<=w'.heap.size):uY w' base lv L:=by
 rcases h with h|⟨g,cap,rfl,h1,h2,h3,h4⟩
 ·exact .inl h
 ·have e:=hb g (by simp [dJ]);refine .inr ⟨g,cap,rfl,h1,by omega,h3,fun i hi=>?_⟩;have c:∀o,w'.cell? (π g o)=w.cell? (π g o):=fun o=>World.cell?_of_block e;rw [c,c,c,c,c,c];exact h4 i hi
theorem Hl (L:List (Nat×eW)):∀i (hi:i < L.length) c,c < 6->(qj L)[i*6+c]? =(t_ L[i])[c]? :=by
 induction L with
 |nil=>intro i hi;simp at hi
 |cons x L ih=>
  intro i hi c hc;have hx:qj (x::L)=t_ x++qj L:=by simp [qj]
  rw [hx];cases i with
  |zero=>rw [List.getElem?_append_left (by simp [t_];omega)];simp
  |succ i=>rw [List.getElem?_append_right (by simp [t_];omega)];have:=ih i (by simpa using hi) c hc;rw [show (i+1)*6+c - (t_ x).length=i*6+c from by simp [t_];omega];simpa using this
theorem FZ {w wr:World} {a:Nd} {l pre:List Nat} {lv:Value} (h:DS w wr a l pre lv):uY wr w.heap.size lv (rowsOf a pre):=by
 by_cases hp:pre=[]
 ·subst hp;exact .inl ⟨rfl,h.nil rfl⟩
 ·have hl:0 < pre.length:=by cases pre with|nil=>exact absurd rfl hp|cons x t=>simp
  rcases h.own.2 with ⟨_,h0⟩|⟨g,cap,yQ,hv,hb,hg,_,_,_,_⟩
  ·omega
  ·subst hv;refine .inr ⟨g,cap,by rw [mJ],hb,(Array.getElem?_eq_some_iff.1 hg).1,by intro e;have:=congrArg List.length e;rw [mJ] at this;simp at this;exact hp this,fun i hi=>?_⟩;have key:∀c,c < 6->∀u,(t_ (rowsOf a pre)[i])[c]? =some u->wr.cell? (π g (i*6+c))=some u:=by intro c hc u hu;have:=World.ownsRow.cells h.own (g:=g) rfl (i*6+c) u (by rw [Hl _ i hi c hc];exact hu);rwa [show ((π g 0):Addr).add (i*6+c)=(π g (i*6+c)) by unfold Addr.add;split<;>simp_all] at this
   exact ⟨key 0 (by omega) _ rfl,key 1 (by omega) _ rfl,key 2 (by omega) _ rfl,key 3 (by omega) _ rfl,key 4 (by omega) _ rfl,key 5 (by omega) _ rfl⟩
theorem zn (F:Fence) (n:Nat) (hf:F.fn 136) (mR:F.round=none) (hn:1<=n) (l B base:Nat) (lv:Value) (L:List (Nat×eW)) (hlen:L.length<=1099511627776) (J Jx:List (Nat×eW)->World->Prop) (KJ:Nat)
 (hJ:AbidesFrom KJ J)
 (hY:∀pre x W,J pre W->pre.length < L.length->YieldAt F (n - 1) Tryz.prog l #[ι x.1,bG x.2] W fun e W'=>
   (e= .returned (.bool true)/\J (pre++[x]) W'/\w_ (B::dJ lv) W W')\/(e= .returned (.bool false)/\Jx (pre++[x]) W'))
 (W:World) (hB:Boxed W B 203 lv) (hL:uY W base lv L) (h0:J [] W):
 CallsIn F n Tryz.prog 136 #[.func (.yield l) #[] #[],ρ B] W fun e W'=>(∃v,e= .returned v)/\
  ((∃ys,ys=L/\J ys W')\/(∃pre,pre <+:L/\Jx pre W')):=by
 refine callsIn_of_wp Tryz.func136 rfl hf ?_ mR;simp only [Tryz.ntmps136,List.size_toArray,List.length_cons,List.length_nil,Nat.reduceAdd,Nat.reduceSub,Array.replicate_succ,Array.replicate_zero,List.push_toArray,List.append_toArray,List.nil_append,List.cons_append];have su:=hB.cell;rcases hL with ⟨rfl,rfl⟩|⟨g,cap,rfl,C7,SN,bz,hc⟩
 ·gi_wp2
  gi_loopw [7] (fun i wr=>i=ι 0/\J [] wr) (fun i _=>0)
  case atStart=>exact ⟨rfl,h0⟩
  case round=>
   obtain ⟨rfl,hj⟩:=hrel
   gi_wp2
   go_end0;exact ⟨⟨_,rfl⟩,.inl ⟨_,rfl,hj⟩⟩
 ·have HC:=ae hc;have HB:=ae hB;clear hc hB
  gi_wp2
  gi_loopw [7] (fun i wr=>∃k:Nat,k<=L.length/\i=ι k/\J (L.take k) wr/\wr.heap[g]? =W.heap[g]?)
   (fun i _=>L.length - (intOf i).toNat)
  case atStart=>exact ⟨0,Nat.zero_le _,rfl,by simpa using h0,rfl⟩
  case round=>
   obtain ⟨k,hk,rfl,FV,rl⟩:=hrel;by_cases a8:k < L.length
   ·have Ra:∀o,wr.cell? (π g o)=W.cell? (π g o):=fun o=>World.cell?_of_block rl;obtain ⟨c0,c1,c2,c3,c4,c5⟩:=HC.o k a8;rw [<-Ra] at c0 c1 c2 c3 c4 c5;clear Ra;have Rb:J (L.take k) (wr.alloc (.cells #[ι L[k].1,.int .u64 L[k].2.key,ι (L[k].2.tg 0),ι (L[k].2.tg 1),ι (L[k].2.tg 2),ι (L[k].2.tg 3)] 206)):=hJ _ _ _ none FV (World.grownBy_alloc wr _ none) (fun r e=>by cases e);obtain ⟨fn,tmps,assign,body,hy,hR⟩:=hY _ L[k] _ Rb (by rw [List.length_take];omega);unfold bG at hy;have ht:L.take k++[L[k]]=L.take (k+1):=by rw [List.take_succ_eq_append_getElem a8]
    have HT:=ae ht;have HG:=ae rl;clear ht rl Rb FV;generalize L[k]=x at*;have um:g < wr.heap.size:=aS c0
    gi_wp2
    refine hR.mono ?_;rintro e W3 (⟨rfl,Rc,iO⟩|⟨rfl,Bu⟩)
    ·have HK:=ae (iO g (by simp [dJ]));have HJ:=ae Rc;clear iO Rc
     gi_wp2
     go_roundw
     case rel=>exact ⟨k+1,by omega,by simp,by rw [<-HT.o];exact HJ.o,by rw [HK.o,Below.heap_alloc _ _ _ um];exact HG.o⟩
     case measure=>simp [intOf];omega
    ·have HJ:=ae Bu;clear Bu
     gi_wp2
     refine bodyPost_ret (results_none rfl _ _ _) rfl ?_;exact ⟨⟨_,rfl⟩,.inr ⟨_,by rw [HT.o];exact List.take_prefix _ _,HJ.o⟩⟩
   ·obtain rfl:k=L.length:=by omega
    have HJ:=ae FV;clear FV
    gi_wp2
    go_end0;exact ⟨⟨_,rfl⟩,.inl ⟨_,rfl,by have:=HJ.o;rwa [List.take_length] at this⟩⟩
theorem uX (F:Fence) (n:Nat) (hf:F.fn 136) (mR:F.round=none) (hn:1<=n) (B base:Nat) (lv:Value) (L:List (Nat×eW)) (hlen:L.length<=1099511627776)
 (W:World) (hB:Boxed W B 203 lv) (hL:uY W base lv L) (sr:∀k,k∈dJ lv->k < W.heap.size):
 SeqStopsK F n Tryz.prog 136 #[ρ B] (fun x:Nat×eW=>#[ι x.1,bG x.2]) (w_ (B::dJ lv)) (· =L) (· <+:L) L.length W:=by
 intro l J Jx W1 hW hJ hJx hY h0;have FU:Boxed W1 B 203 lv:=(hW.block B hB.lt).trans hB;have KK:uY W1 base lv L:=hL.iK (fun k hk=>hW.block k (sr k hk)) hW.size;exact zn F n hf mR hn l B base lv L hlen J Jx _ hJ hY W1 FU KK h0
theorem M4 {α:Type} (va:α->Nat×eW) (F:Fence) (n:Nat) (hf:F.fn 136) (mR:F.round=none) (hn:1<=n) (l B base:Nat) (lv:Value) (L:List α) (hlen:L.length<=1099511627776) (J Jx:List α->World->Prop) (KJ:Nat)
 (hJ:AbidesFrom KJ J)
 (hY:∀pre x W,J pre W->pre.length < L.length->YieldAt F (n - 1) Tryz.prog l #[ι (va x).1,bG (va x).2] W fun e W'=>
   (e= .returned (.bool true)/\J (pre++[x]) W'/\w_ (B::dJ lv) W W')\/(e= .returned (.bool false)/\Jx (pre++[x]) W'))
 (W:World) (hB:Boxed W B 203 lv) (hL:uY W base lv (L.map va)) (h0:J [] W):
 CallsIn F n Tryz.prog 136 #[.func (.yield l) #[] #[],ρ B] W fun e W'=>(∃v,e= .returned v)/\
  ((∃ys,ys=L/\J ys W')\/(∃pre,pre <+:L/\Jx pre W')):=by
 refine callsIn_of_wp Tryz.func136 rfl hf ?_ mR;simp only [Tryz.ntmps136,List.size_toArray,List.length_cons,List.length_nil,Nat.reduceAdd,Nat.reduceSub,Array.replicate_succ,Array.replicate_zero,List.push_toArray,List.append_toArray,List.nil_append,List.cons_append];have su:=hB.cell;rcases hL with ⟨DN,rfl⟩|⟨g,cap,rfl,C7,SN,bz,hc⟩
 ·have Zk:L=[]:=List.map_eq_nil_iff.1 DN;clear DN;subst Zk
  gi_wp2
  gi_loopw [7] (fun i wr=>i=ι 0/\J [] wr) (fun i _=>0)
  case atStart=>exact ⟨rfl,h0⟩
  case round=>
   obtain ⟨rfl,hj⟩:=hrel
   gi_wp2
   go_end0;exact ⟨⟨_,rfl⟩,.inl ⟨_,rfl,hj⟩⟩
 ·have HC:=ae hc;have HB:=ae hB;clear hc hB;rw [List.length_map] at su
  gi_wp2
  gi_loopw [7] (fun i wr=>∃k:Nat,k<=L.length/\i=ι k/\J (L.take k) wr/\wr.heap[g]? =W.heap[g]?)
   (fun i _=>L.length - (intOf i).toNat)
  case atStart=>exact ⟨0,Nat.zero_le _,rfl,by simpa using h0,rfl⟩
  case round=>
   obtain ⟨k,hk,rfl,FV,rl⟩:=hrel;by_cases a8:k < L.length
   ·have Ra:∀o,wr.cell? (π g o)=W.cell? (π g o):=fun o=>World.cell?_of_block rl;obtain ⟨c0,c1,c2,c3,c4,c5⟩:=HC.o k (by rw [List.length_map];exact a8);rw [List.getElem_map] at c0 c1 c2 c3 c4 c5;rw [<-Ra] at c0 c1 c2 c3 c4 c5;clear Ra;have Rb:J (L.take k) (wr.alloc (.cells #[ι (va L[k]).1,.int .u64 (va L[k]).2.key,ι ((va L[k]).2.tg 0),ι ((va L[k]).2.tg 1),ι ((va L[k]).2.tg 2),ι ((va L[k]).2.tg 3)] 206)):=hJ _ _ _ none FV (World.grownBy_alloc wr _ none) (fun r e=>by cases e);obtain ⟨fn,tmps,assign,body,hy,hR⟩:=hY _ L[k] _ Rb (by rw [List.length_take];omega);unfold bG at hy;have ht:L.take k++[L[k]]=L.take (k+1):=by rw [List.take_succ_eq_append_getElem a8]
    have HT:=ae ht;have HG:=ae rl;clear ht rl Rb FV;generalize L[k]=x at*;generalize va x=y at*;have um:g < wr.heap.size:=aS c0
    gi_wp2
    refine hR.mono ?_;rintro e W3 (⟨rfl,Rc,iO⟩|⟨rfl,Bu⟩)
    ·have HK:=ae (iO g (by simp [dJ]));have HJ:=ae Rc;clear iO Rc
     gi_wp2
     go_roundw
     case rel=>exact ⟨k+1,by omega,by simp,by rw [<-HT.o];exact HJ.o,by rw [HK.o,Below.heap_alloc _ _ _ um];exact HG.o⟩
     case measure=>simp [intOf];omega
    ·have HJ:=ae Bu;clear Bu
     gi_wp2
     refine bodyPost_ret (results_none rfl _ _ _) rfl ?_;exact ⟨⟨_,rfl⟩,.inr ⟨_,by rw [HT.o];exact List.take_prefix _ _,HJ.o⟩⟩
   ·obtain rfl:k=L.length:=by omega
    have HJ:=ae FV;clear FV
    gi_wp2
    go_end0;exact ⟨⟨_,rfl⟩,.inl ⟨_,rfl,by have:=HJ.o;rwa [List.take_length] at this⟩⟩
theorem CI {α:Type} (va:α->Nat×eW) (F:Fence) (n:Nat) (hf:F.fn 136) (mR:F.round=none) (hn:1<=n) (B base:Nat) (lv:Value) (L:List α) (hlen:L.length<=1099511627776)
 (W:World) (hB:Boxed W B 203 lv) (hL:uY W base lv (L.map va)) (sr:∀k,k∈dJ lv->k < W.heap.size):
 SeqStopsK F n Tryz.prog 136 #[ρ B] (fun x:α=>#[ι (va x).1,bG (va x).2]) (w_ (B::dJ lv)) (· =L) (· <+:L) L.length W:=by
 intro l J Jx W1 hW hJ hJx hY h0;have FU:Boxed W1 B 203 lv:=(hW.block B hB.lt).trans hB;have KK:uY W1 base lv (L.map va):=hL.iK (fun k hk=>hW.block k (sr k hk)) hW.size;exact M4 va F n hf mR hn l B base lv L hlen J Jx _ hJ hY W1 FU KK h0
end Go.Proofs.YtblkblclmbhjiaaGreat.dT
section
namespace ak.Vm
open Go Go.RowKit
theorem ay.Hm {W:World} {b:Nat} {T:TypeId} {cs:Array Value} (h:ay W b T cs):∃o:Obj,W.heap[b]? =some o/\o.isCells=true:=⟨_,h,rfl⟩
theorem Row.Hm {W:World} {e:TypeId} {size n:Nat} {v:Value} {g:Nat->Value} (h:Row W e size v n g) {b:Nat} (hb:v.ownBlock= .some b):∃o:Obj,W.heap[b]? = .some o/\o.isCells=true:=by
 rcases h.2 with ⟨rfl,_⟩|⟨g',cap,yQ,rfl,_,hg,_⟩
 ·simp [Value.ownBlock] at hb
 ·simp [Value.ownBlock] at hb;subst hb;exact ⟨_,hg,rfl⟩
end ak.Vm
namespace Go.Proofs.YtblkblclmbhjiaaGreat.Mk
open Go.RowKit ak Go.Shelf ak.Vm
open gP (w_ dJ)
structure Marks (W:World) (Ds:List Nat):Prop where
 nd:Ds.Nodup
 at_:∀D,D∈Ds->W.heap[D]? =some (.deferred (some []))
def marksOf (Ds:List Nat):List Deferred:=Ds.map fun D=>{target:= .collected D,args:=#[]}
structure Shut (Ds:List Nat) (W W':World):Prop where
 os:W'.os=W.os
 tape:W'.tape=W.tape
 output:W'.output=W.output
 size:W'.heap.size=W.heap.size
 block:∀k,k∉Ds->W'.heap[k]? =W.heap[k]?
theorem zo {F:Fence} {n:Nat} {P:Program} {fn:Func} {tmps:Array Value} {R:Ending->World->Prop}:∀(Ds:List Nat) (W:World),Marks W Ds->
 (∀W',Shut Ds W W'->LeavesInM F n P fn tmps R [] .returning W')->LeavesInM F n P fn tmps R (marksOf Ds) .returning W:=by
 intro Ds
 induction Ds with
 |nil=>intro W _ h;exact h W ⟨rfl,rfl,rfl,rfl,fun _ _=>rfl⟩
 |cons D Ds ih=>
  intro W hM h;have hD:=hM.at_ D (by simp);have gm:=List.nodup_cons.1 hM.nd;refine ⟨by simp,.inl ⟨D,_,rfl,run_takeDeferred hD,?_⟩⟩;refine ih _ ⟨gm.2,fun k hk=>?_⟩ fun W' Jq=>?_
  ·exact (World.putObj_heap_other (by intro e;subst e;exact gm.1 hk)).trans (hM.at_ k (by simp [hk]))
  ·refine h W' ⟨Jq.os,Jq.tape,Jq.output,Jq.size.trans (by simp),fun k hk=>?_⟩;simp only [List.mem_cons,not_or] at hk;exact (Jq.block k hk.2).trans (World.putObj_heap_other (fun e=>hk.1 e))
theorem Shut.cells {Ds:List Nat} {W W':World} (h:Shut Ds W W') (M:Marks W Ds) {k:Nat} (hk:∃o:Obj,W.heap[k]? =some o/\o.isCells=true):W'.heap[k]? =W.heap[k]? :=by refine h.block k fun hm=>?_;obtain ⟨o,h1,h2⟩:=hk;rw [M.at_ k hm] at h1;cases h1;simp [Obj.isCells] at h2
theorem Shut.below {Ds:List Nat} {W W':World} (h:Shut Ds W W') {B:Nat} (hB:∀D,D∈Ds->B<=D):Below B W W':=
 ⟨h.os,h.tape,h.output,by rw [h.size];exact Nat.le_refl _,fun k hk=>h.block k fun hm=>by have:=hB k hm;omega⟩
theorem Shut.aB {Ds:List Nat} {W W':World} (h:Shut Ds W W'):ax Ds W W':=⟨h.os,h.tape,h.output,by rw [h.size];exact Nat.le_refl _,fun k _ hk=>h.block k hk⟩
theorem Marks.nil (W:World):Marks W []:=⟨.nil,fun _ h=>by simp at h⟩
theorem Marks.cons {W:World} {Ds:List Nat} {D:Nat} (M:Marks W Ds) (hD:W.heap[D]? =some (.deferred (some []))) (h:D∉Ds):Marks W (D::Ds):=
 ⟨List.nodup_cons.2 ⟨h,M.nd⟩,fun k hk=>by rcases List.mem_cons.1 hk with rfl|hk;exact hD;exact M.at_ k hk⟩
theorem Marks.keeps {W W':World} {Ds:List Nat} (M:Marks W Ds) (h:∀k,k∈Ds->W'.heap[k]? =W.heap[k]?):Marks W' Ds:=⟨M.nd,fun k hk=>(h k hk).trans (M.at_ k hk)⟩
theorem Marks.lt {W:World} {Ds:List Nat} (M:Marks W Ds) {D:Nat} (h:D∈Ds):D < W.heap.size:=(Array.getElem?_eq_some_iff.1 (M.at_ D h)).1
theorem Marks.not {W:World} {Ds:List Nat} (M:Marks W Ds) {k:Nat} (hk:∃o:Obj,W.heap[k]? =some o/\o.isCells=true):k∉Ds:=by intro hm;obtain ⟨o,h1,h2⟩:=hk;rw [M.at_ k hm] at h1;cases h1;simp [Obj.isCells] at h2
theorem aP {P:Program} {Q:Exit->Act->World->Prop} {a:Act} {w:World} {c:Code} (R:Nat->Act->World->Prop) (m:Nat) (h0:R m a w) (hz:∀a w,¬R 0 a w)
 (h:∀m a w,R (m+1) a w->c.wp P (Exit.then (R m) Q) a w):(Code.loop c).wp P Q a w:=by
 refine wp_loop_rounds m ?_
 induction m generalizing a w with
 |zero=>exact absurd h0 (hz a w)
 |succ m ih=>
  rw [rounds_succ];refine wp_mono (h m a w h0) ?_;intro e a' w' hq;cases e with
  |normal=>exact ih hq
  |_=>exact hq
def KL (W:World) (k:Nat):Prop:=∃o:Obj,W.heap[k]? =some o/\o.isCells=true
theorem KL.lt {W:World} {k:Nat} (h:KL W k):k < W.heap.size:=by obtain ⟨o,h,-⟩:=h;exact (Array.getElem?_eq_some_iff.1 h).1
theorem KL.grown {W W':World} {row:Option Nat} {k:Nat} (hk:KL W k) (hg:W.grownBy W' row) (hr:∀r,row=some r->∃o:Obj,W.heap[r]? =some o/\o.isCells=false):W'.heap[k]? =W.heap[k]? :=by refine hg.block k hk.lt fun e=>?_;obtain ⟨o,h1,h2⟩:=hk;obtain ⟨o',h3,h4⟩:=hr k e.symm;rw [h1] at h3;cases h3;rw [h2] at h4;simp at h4
def rp (ops:Array Oper):Bool:=ops.all fun o=>match o.op with| .defer _=>false|_=>true
theorem DT {ops:Array Oper} (h:rp ops=true) {i:Nat} {o:Oper} (ho:ops[i]? =some o) (c:Call):o.op≠.defer c:=by intro e;unfold rp at h;have hm:o∈ops:=Array.mem_of_getElem? ho;have:=Array.all_eq_true_iff_forall_mem.1 h o hm;rw [e] at this;simp at this
theorem Hn {P:Program} {row:String} {args:Array Value} {w:World} {R:Value->World->Prop} {l n:Nat} (h:Rows P row args w R):RowsIn (Fence.wide.inRound l) n P row args w R:=
 fun c cs _=>let ⟨v,w',r,s⟩:=h c cs;⟨v,w',r,stepsIn_wide.2 s⟩
theorem DU {P:Program} {o:Oper} {a:Act} {l n:Nat} {K:Act->World->Prop} {Q:Exit->Act->World->Prop} {r:Result Next} (h:o.upon P a K Q r):o.uponIn (Fence.wide.inRound l) n P a K Q r:=by
 cases r with
 |ok x w'=>
  cases x with
  |value v=>exact h
  |skip=>exact h
  |defer d=>exact h
  |enter f args=>exact ⟨fun hh=>by simp [Fence.wide] at hh,CallsIn.inRound l (callsIn_wide.2 h)⟩
  |row row args=>exact ⟨fun hh=>by simp [Fence.wide] at hh,Hn h⟩
  |_=>exact absurd h (by simp [Oper.upon])
 |halt x w'=>cases x<;>exact h
theorem m_ {P:Program} {md:Region.Mode} {ops:Array Oper} {Q:Exit->Act->World->Prop} {l n:Nat} (hd:rp ops=true) (hQ:∀a w,¬Q .outgrown a w):∀(iT:Nat) (eH:Array Bool) (a:Act) (w:World),
 wpAny P md ops Q iT eH a w->wpAnyIn (Fence.wide.inRound l) n P md ops Q iT eH a w
 |0,_,_,_,h=>h
 |iT+1,eH,a,w,h=>⟨h.1,fun i hi=>by
   have h2:=h.2 i hi;unfold wpOp at h2;unfold wpOpIn;cases ho:ops[i]? with
   |none=>rw [ho] at h2;exact m_ hd hQ iT _ _ _ h2
   |some o=>
    rw [ho] at h2;dsimp only at h2 ⊢;split
    ·next hw=>
     rw [if_pos hw] at h2;rcases h2 with h2|⟨-,a',w',h2⟩
     ·refine ⟨fun _ _=>trivial,?_⟩;rw [Oper.semAt_eq _ _ _ (DT hd ho)];refine DU ?_;exact Oper.wp_mono (fun a' w' h'=>m_ hd hQ iT _ _ _ h') h2
     ·exact absurd h2 (hQ a' w')
    ·next hw=>
     rw [if_neg hw] at h2;exact ⟨fun _ _=>trivial,m_ hd hQ iT _ _ _ h2⟩⟩
def iw (Q:Exit->Act->World->Prop) (e:Exit) (a:Act) (w:World):Prop:=e= .normal/\Q .normal a w
theorem aN {Q:Exit->Act->World->Prop} {c:List PanicEntry} {a:Act} {w:World} {X:Prop} (h:iw Q (.panic c) a w):X:=by cases h.1
theorem bF {P:Program} {id:Nat} {ops:Array Oper} {Q:Exit->Act->World->Prop} {a:Act} {w:World} {S:World->Prop} (hm:P.follows .mixedOrders=true) (hS:S w.drew)
 (h:S w.drew->wpAnyH P .any ops (iw Q) S ops.size (Array.replicate ops.size false) a w.drew):(Code.region id ops true).wp P Q a w:=
 Code.wp_mono (fun e a w hq=>by obtain ⟨rfl,hq⟩:=hq;exact hq) (wp_region_held_drew hm hS h)
theorem rr {P:Program} {id:Nat} {ops:Array Oper} {Q:Exit->Act->World->Prop} {a:Act} {w:World} {l n:Nat} {S:World->Prop} (hm:P.follows .mixedOrders=true) (hd:rp ops=true) (hS:S w.drew)
 (h:S w.drew->wpAnyH P .any ops (iw Q) S ops.size (Array.replicate ops.size false) a w.drew):(Code.region id ops true).wpIn (Fence.wide.inRound l) n P Q a w:=by
 refine wpIn_mono (Q:=iw Q) ?_ (fun e a w hq=>by obtain ⟨rfl,hq⟩:=hq;exact hq);exact wpIn_region_any hm (m_ hd (fun a w hq=>by cases hq.1) _ _ _ _ (wpAny_of_held _ _ _ _ (h hS)))
end Go.Proofs.YtblkblclmbhjiaaGreat.Mk
end
namespace Go.Proofs.YtblkblclmbhjiaaGreat.Mk
open Go.RowKit ak Go.Shelf ak.Vm
def nV:Code->List Code
 | .loop c=>[c]
 | .seq a b=>nV a++nV b
 | .block _ c=>nV c
 | .scope c=>nV c
 | .cond _ a b=>nV a++nV b
 |_=>[]
def mK (b:Option Code) (k:Nat):Code:=((nV (b.getD .skip))[k]?).getD .skip
section
variable {P:Program} {ops:Array Oper} {md:Region.Mode} {Q:Exit->Act->World->Prop} {S:World->Prop} {oi:Oper} {v:Value} {iT:Nat} {eH:Array Bool} {a:Act} {w:World}
theorem tk (i:Nat) (hi:ops[i]? =some oi) (hy:∀w,S w->(execOp a.eval oi).run P w= .ok (.value v) w) (hS:S w) (h:wpAnyH P md ops (iw Q) S iT (eH.setIfInBounds i true) (a.put oi.dst v) w)
 (hw:Region.wanted oi (yielded ops a.tmps)=true:=by rfl) (hs:Region.noSelect ops=true:=by kernel_rfl) (hf:Region.free md ops eH i=true:=by kernel_rfl) (hr:(Region.ready md ops eH).contains i=true:=by kernel_rfl):
 wpAnyH P md ops (iw Q) S (iT+1) eH a w:=
 wpAnyH_take hi hs hf hr (fun _ _ _ h=>aN h) (.inl ⟨hw,hy⟩) hS h
theorem sk (i:Nat) (hi:ops[i]? =some oi) (hS:S w) (h:wpAnyH P md ops (iw Q) S iT (eH.setIfInBounds i true) (a.put oi.dst undef) w)
 (hw:Region.wanted oi (yielded ops a.tmps)=false:=by rfl) (hs:Region.noSelect ops=true:=by kernel_rfl) (hf:Region.free md ops eH i=true:=by kernel_rfl) (hr:(Region.ready md ops eH).contains i=true:=by kernel_rfl):
 wpAnyH P md ops (iw Q) S (iT+1) eH a w:=
 wpAnyH_take hi hs hf hr (fun _ _ _ h=>aN h) (.inr ⟨hw,rfl⟩) hS h
theorem nW {rs:List Nat} (h:AllReadyH P md ops (iw Q) S iT eH a w rs) (hr:Region.ready md ops eH=rs:=by kernel_rfl) (bz:rs≠[]:=by simp):wpAnyH P md ops (iw Q) S (iT+1) eH a w:=wpAnyH_ready hr bz h
end
section
variable {P:Program} {ops:Array Oper} {md:Region.Mode} {Q:Exit->Act->World->Prop} {S:World->Prop} {oi:Oper} {v:Value} {iT:Nat} {eH:Array Bool} {a a':Act} {w:World}
theorem bL (i:Nat) (h:wpAnyH P md ops (iw Q) S iT (eH.setIfInBounds i true) a' w)
 (hS:S w:=by assumption)
 (hi:ops[i]? =some oi:=by rfl)
 (hy:∀w,S w->(execOp a.eval oi).run P w= .ok (.value v) w:=by
   intro wz bR
   (try dsimp only at bR)
   (try simp only [List.getElem_toArray,List.getElem_cons_zero,List.getElem_cons_succ])
   first|(go_simp;done)|(go_simp;with_reducible rfl))
 (ha:a'=a.put oi.dst v:=by
   (try simp only [Act.put,List.setIfInBounds_toArray,List.set_cons_zero,List.set_cons_succ,List.getElem_toArray,List.getElem_cons_zero,List.getElem_cons_succ])
   first|done|rfl)
 (hw:Region.wanted oi (yielded ops a.tmps)=true:=by rfl) (hs:Region.noSelect ops=true:=by kernel_rfl) (hf:Region.free md ops eH i=true:=by kernel_rfl) (hr:(Region.ready md ops eH).contains i=true:=by kernel_rfl):
 wpAnyH P md ops (iw Q) S (iT+1) eH a w:=tk i hi hy hS (ha▸h) hw hs hf hr
theorem Re (i:Nat) {W0:World} {b o:Nat} {u:Value} (c:W0.cell? (π b o)=some u) (h:wpAnyH P md ops (iw Q) S iT (eH.setIfInBounds i true) a' w)
 (hS:S w:=by assumption)
 (hi:ops[i]? =some oi:=by rfl)
 (hy:W0.cell? (π b o)=some u->∀w,S w->(execOp a.eval oi).run P w= .ok (.value v) w:=by
   intro c wz bR;have y0:=(World.cell?_of_block (bR.block _ (aS c))).trans c
   (try simp only [List.getElem_toArray,List.getElem_cons_zero,List.getElem_cons_succ])
   first|(go_simp;done)|(go_simp;with_reducible rfl))
 (ha:a'=a.put oi.dst v:=by
   (try simp only [Act.put,List.setIfInBounds_toArray,List.set_cons_zero,List.set_cons_succ,List.getElem_toArray,List.getElem_cons_zero,List.getElem_cons_succ])
   first|done|rfl)
 (hw:Region.wanted oi (yielded ops a.tmps)=true:=by rfl) (hs:Region.noSelect ops=true:=by kernel_rfl) (hf:Region.free md ops eH i=true:=by kernel_rfl) (hr:(Region.ready md ops eH).contains i=true:=by kernel_rfl):
 wpAnyH P md ops (iw Q) S (iT+1) eH a w:=tk i hi (hy c) hS (ha▸h) hw hs hf hr
theorem OV (i:Nat) (h:wpAnyH P md ops (iw Q) S iT (eH.setIfInBounds i true) a' w)
 (hS:S w:=by assumption)
 (hi:ops[i]? =some oi:=by rfl)
 (ha:a'=a.put oi.dst undef:=by
   (try simp only [Act.put,List.setIfInBounds_toArray,List.set_cons_zero,List.set_cons_succ,List.getElem_toArray,List.getElem_cons_zero,List.getElem_cons_succ])
   first|done|rfl)
 (hw:Region.wanted oi (yielded ops a.tmps)=false:=by rfl) (hs:Region.noSelect ops=true:=by kernel_rfl) (hf:Region.free md ops eH i=true:=by kernel_rfl) (hr:(Region.ready md ops eH).contains i=true:=by kernel_rfl):
 wpAnyH P md ops (iw Q) S (iT+1) eH a w:=sk i hi hS (ha▸h) hw hs hf hr
end
theorem pt {p q:Prop} (hq:q) (h:q->p:=by
 intro hq
 (try simp only [Act.put,List.setIfInBounds_toArray,List.set_cons_zero,List.set_cons_succ,List.getElem_toArray,List.getElem_cons_zero,List.getElem_cons_succ])
 exact hq):p:=h hq
end Go.Proofs.YtblkblclmbhjiaaGreat.Mk
namespace Go.Proofs.YtblkblclmbhjiaaGreat.S4
open Go Go.RowKit ak
section
structure ny (n count az e:Nat) (S:Tb Value):Prop where
 inv:Inv n S
 cR:cR n S=count
 le:count<=az
 fit:Fit az n e
 int:∀i k u,S i=some (k,u)->∃x,u=ι x
variable {n count az e:Nat} {S:Tb Value}
theorem ny.pos (T:ny n count az e S):0 < n:=T.fit.Sk.pos
theorem ny.lt (T:ny n count az e S):count < n:=by have:=T.le;have:=T.fit.ge;have:=T.pos;omega
theorem ny.wU (T:ny n count az e S):∃em,em < n/\S em=none:=yP (by rw [T.cR];exact T.lt)
theorem vD {key:Nat} {v:Int} (h:∀i k u,S i=some (k,u)->∃x,u=ι x):∀i k u,putAt n S key (ι v) i=some (k,u)->∃x,u=ι x:=by
 intro i k u hi;unfold putAt at hi;by_cases e:i=find n S key
 ·subst e;rw [an] at hi;simp at hi;exact ⟨v,hi.2.symm⟩
 ·rw [aj _ _ e] at hi;exact h i k u hi
theorem vE {p:Nat} {x:Option (Nat×Value)} (h:∀i k u,S i=some (k,u)->∃x,u=ι x) (hx:∀k u,x=some (k,u)->∃x,u=ι x):∀i k u,aL S p x i=some (k,u)->∃x,u=ι x:=by
 intro i k u hi;by_cases e:i=p
 ·subst e;rw [an] at hi;exact hx k u hi
 ·rw [aj _ _ e] at hi;exact h i k u hi
theorem BC:∀(f:Nat) (S:Tb Value) (i k:Nat),(∀i k u,S i=some (k,u)->∃x,u=ι x)->∀j y u,fV n f S i k j=some (y,u)->∃x,u=ι x:=by
 intro f
 induction f with
 |zero=>intro S i k h;exact h
 |succ f ih=>
  intro S i k h;unfold fV;cases hs:S k with
  |none=>exact h
  |some p=>
   obtain ⟨y,v⟩:=p;dsimp only;split
   ·exact ih _ _ _ (vE (vE h fun k' u e=>h k k' u (hs.trans e)) fun k u e=>by simp at e)
   ·exact ih _ _ _ h
theorem sK {p:Nat} (h:∀i k u,S i=some (k,u)->∃x,u=ι x):∀i k u,ke n S p i=some (k,u)->∃x,u=ι x:=
 BC n _ _ _ (vE h fun k u e=>by simp at e)
end
end Go.Proofs.YtblkblclmbhjiaaGreat.S4
namespace Go.Proofs.YtblkblclmbhjiaaGreat.Ix
open Go.RowKit ak
open S4 (ny vD sK)
def cL (w:World) (b s az count:Nat) (f:Nat->Option Nat):Prop:=
 ∃(n e:Nat) (S:Tb Value),dH w b s az count n (dB (ι 0) S)/\ny n count az e S/\(∀k v,f k=some v↔∃p,p < n/\S p=some (k,ι (v:Nat)))/\∀p k u,p < n->S p=some (k,u)->∃v:Nat,u=ι v
section
variable {w w':World} {b s az count:Nat} {f:Nat->Option Nat}
theorem cL.aB {T:List Nat} (h:cL w b s az count f) (g:ax T w w') (hs:b∉T/\s∉T):cL w' b s az count f:=by obtain ⟨n,e,S,h1,h2⟩:=h;exact ⟨n,e,S,h1.aB g hs.1 hs.2,h2⟩
theorem cL.later (h:cL w b s az count f) (g:Below w.heap.size w w'):cL w' b s az count f:=h.aB (ax.ah (S:=[]) g) (by simp)
theorem cL.drewN (h:cL w b s az count f) (m:Nat):cL (w.drewN m) b s az count f:=by obtain ⟨n,e,S,h1,h2⟩:=h;exact ⟨n,e,S,h1.drewN m,h2⟩
theorem Lb {n count az e:Nat} {S:Tb Value} (T:ny n count az e S) {k k':Nat} {u:Value} (h:S (find n S k)=some (k',u)):k'=k:=by obtain ⟨em,oN,il⟩:=T.wU;exact AO (pB oN il k).1 h
theorem pI {n count az e:Nat} {S:Tb Value} (T:ny n count az e S) (hf:∀k v,f k=some v↔∃p,p < n/\S p=some (k,ι (v:Nat))) {k v:Nat} (h:f k=some v):S (find n S k)=some (k,ι v):=by obtain ⟨em,oN,il⟩:=T.wU;obtain ⟨p,hp,hs⟩:=(hf k v).1 h;rw [T.inv.yN oN il hp hs];exact hs
theorem nz {n count az e:Nat} {S:Tb Value} (T:ny n count az e S) (hf:∀k v,f k=some v↔∃p,p < n/\S p=some (k,ι (v:Nat))) (hn:∀p k u,p < n->S p=some (k,u)->∃v:Nat,u=ι v) {k:Nat} (h:f k=none):S (find n S k)=none:=by
 cases hs:S (find n S k) with
 |none=>rfl
 |some x=>obtain ⟨k',u⟩:=x;have hk:=Lb T hs;subst hk;have a8:=iQ T.pos S k';obtain ⟨v,rfl⟩:=hn _ _ _ a8 hs;have:=(hf k' v).2 ⟨_,a8,hs⟩;rw [h] at this;simp at this
theorem pJ (h:cL w b s az count f) {key v:Nat} (hk:f key=some v):Calls Tryz.prog 59 #[ρ b,.int .u64 key] w fun r w'=>r= .returned (.tuple #[ι v,.bool true])/\∃m,w'=w.drewN m:=by
 obtain ⟨n,e,S,h1,T,hf,hn⟩:=h;obtain ⟨em,oN,il⟩:=T.wU;have:=gP.xM h1 T.fit.Sk oN il key;have hc:dB (ι 0) S (find n S key)=(true,key,ι v):=by unfold dB;rw [pI T hf hk]
 rw [hc] at this;exact this
theorem yk (h:cL w b s az count f) {key:Nat} (hk:f key=none):Calls Tryz.prog 59 #[ρ b,.int .u64 key] w fun r w'=>r= .returned (.tuple #[ι 0,.bool false])/\∃m,w'=w.drewN m:=by
 obtain ⟨n,e,S,h1,T,hf,hn⟩:=h;obtain ⟨em,oN,il⟩:=T.wU;have:=gP.xM h1 T.fit.Sk oN il key;have hc:dB (ι 0) S (find n S key)=(false,0,ι 0):=by unfold dB;rw [nz T hf hn hk]
 rw [hc] at this;exact this
theorem Lc (h:cL w b s az count f) {key v:Nat} (hk:f key=none) (hc:count < az):Calls Tryz.prog 307 #[ρ b,.int .u64 key,ι v] w fun r w'=>r= .returned (ι 0)/\ax [b,s] w w'/\cL w' b s az (count+1) (Vm.aL f key (some v)):=by
 obtain ⟨n,e,S,h1,T,hf,hn⟩:=h;obtain ⟨em,oN,il⟩:=T.wU;have ht:=nz T hf hn hk;have uR:=T.fit.ge;refine (gP.O6 h1 T.fit.Sk oN il key v hc (by omega) ht).mono ?_;rintro r w' ⟨rfl,g,h2⟩;have a8:=iQ T.pos S key;have Da:∀p,putAt n S key (ι (v:Nat)) p=if p=find n S key then some (key,ι (v:Nat)) else S p:=fun p=>rfl;refine ⟨rfl,g,n,e,_,h2,⟨T.inv.put oN il key _,by rw [wV T.pos ht,T.cR],by omega,T.fit,vD T.int⟩,fun k x=>?_,fun p k u hp hs=>?_⟩
 ·show (if k=key then some v else f k)=some x↔_;by_cases e1:k=key
  ·subst e1;rw [if_pos rfl];constructor
   ·intro h3;have:v=x:=Option.some.inj h3;subst this;exact ⟨_,a8,by rw [Da,if_pos rfl]⟩
   ·rintro ⟨p,hp,h3⟩;rw [Da] at h3;split at h3
    ·simp at h3;rw [show v=x by omega]
    ·have:=(hf k x).2 ⟨p,hp,h3⟩;rw [hk] at this;simp at this
  ·rw [if_neg e1,hf];constructor
   ·rintro ⟨p,hp,h3⟩;refine ⟨p,hp,?_⟩;rw [Da,if_neg]
    ·exact h3
    ·intro e2;rw [e2,ht] at h3;simp at h3
   ·rintro ⟨p,hp,h3⟩;rw [Da] at h3;split at h3
    ·simp at h3;exact absurd h3.1.symm e1
    ·exact ⟨p,hp,h3⟩
 ·rw [Da] at hs;split at hs
  ·simp at hs;exact ⟨v,hs.2.symm⟩
  ·exact hn p k u hp hs
theorem qK (h:cL w b s az (count+1) f) {key v:Nat} (hk:f key=some v):Calls Tryz.prog 66 #[ρ b,.int .u64 key] w fun r w'=>r= .returned (.tuple #[ι v,.bool true])/\ax [b,s] w w'/\cL w' b s az count (Vm.aL f key none):=by
 obtain ⟨n,e,S,h1,T,hf,hn⟩:=h;obtain ⟨em,oN,il⟩:=T.wU;have ht:=pI T hf hk;have a8:=iQ T.pos S key;have OI:=T.lt;refine (gP.Ib h1 T.fit.Sk T.inv (by omega) oN il key ht T.int).mono ?_;rintro r w' ⟨rfl,g,h2⟩;have bz:find n S key≠em:=fun e'=>by rw [e',il] at ht;simp at ht
 have hD:=xD.start T.inv a8 oN il bz;have eG:=Dx n (ak.aL S (find n S key) none) (find n S key) (nx n (find n S key)) em hD (Nat.le_of_lt (qZ (jf a8) oN));have iS:=Dz T.inv a8 oN il (by rw [ht];simp);refine ⟨rfl,g,n,e,_,h2,⟨(Dw T.inv a8 oN il bz).1,by rw [T.cR] at iS;omega,by have:=T.le;omega,T.fit,sK T.int⟩,fun k x=>?_,fun p k u hp hs=>?_⟩
 ·show (if k=key then none else f k)=some x↔∃p,p < n/\ke n S (find n S key) p=some (k,ι (x:Nat));rw [show (∃p,p < n/\ke n S (find n S key) p=some (k,ι (x:Nat)))↔_ from eG (k,ι (x:Nat))];have hu:∀p,ak.aL S (find n S key) none p=if p=find n S key then none else S p:=fun p=>rfl;by_cases e1:k=key
  ·subst e1;rw [if_pos rfl];constructor
   ·intro h3;simp at h3
   ·rintro ⟨p,hp,h3⟩;rw [hu] at h3;split at h3
    ·simp at h3
    ·next hpn=>exact absurd (T.inv.yN oN il hp h3).symm hpn
  ·rw [if_neg e1,hf];constructor
   ·rintro ⟨p,hp,h3⟩;refine ⟨p,hp,?_⟩;rw [hu,if_neg]
    ·exact h3
    ·intro e2;rw [e2,ht] at h3;simp at h3;exact e1 h3.1.symm
   ·rintro ⟨p,hp,h3⟩;rw [hu] at h3;split at h3
    ·simp at h3
    ·exact ⟨p,hp,h3⟩
 ·obtain ⟨p',hp',h3⟩:=(eG (k,u)).1 ⟨p,hp,hs⟩;have hu:ak.aL S (find n S key) none p'=if p'=find n S key then none else S p':=rfl;rw [hu] at h3;split at h3
  ·simp at h3
  ·exact hn p' k u hp' h3
theorem D8 (h:cL w b s az count f) {key:Nat} (hk:f key=none):Calls Tryz.prog 66 #[ρ b,.int .u64 key] w fun r w'=>r= .returned (.tuple #[ι 0,.bool false])/\∃m,w'=w.drewN m:=by obtain ⟨n,e,S,h1,T,hf,hn⟩:=h;obtain ⟨em,oN,il⟩:=T.wU;exact gP.Ia h1 T.fit.Sk oN il key (nz T hf hn hk)
theorem aai (az:Nat) (w:World) (hm:az<=4194304):Calls Tryz.prog 57 #[ι az] w fun r w'=>r= .returned (.tuple #[ρ (w.heap.size+1),ι 0])/\ax [] w w'/\cL w' (w.heap.size+1) w.heap.size az 0 (fun _=>none)/\w'.heap.size=w.heap.size+2:=by
 refine (gP.Bs az w hm).mono ?_;rintro r w' ⟨rfl,n,e,F,h1,g,hz⟩;refine ⟨rfl,g,⟨n,e,_,h1,⟨Inv.empty _,JO _,Nat.zero_le _,F,fun i k u h=>by simp at h⟩,fun k v=>?_,fun p k u _ h=>by simp at h⟩,hz⟩;constructor
 ·intro h;simp at h
 ·rintro ⟨p,_,h⟩;simp at h
end
end Go.Proofs.YtblkblclmbhjiaaGreat.Ix
namespace Go.Proofs.YtblkblclmbhjiaaGreat.Ma
open Go.RowKit ak.Vm
open ak hiding aL an aj
open dT (bP bG)
open Ix (cL)
def vb (v:Value):List Nat:=v.ownBlock.toList
theorem aK {v:Value} {b:Nat}:b∈vb v↔v.ownBlock=some b:=by unfold vb;simp
structure Co where
 mb:Nat
 ab:Nat
 xb:Nat
 xs:Nat
 V:Value
 L:Value
 vs:Value
structure Ru where
 rb:Nat
 jJ:Value
 je:Value
 kF:Value
 i_:Value
def Co.l (C:Co):List Nat:=C.mb::C.xb::C.xs::(bp C.ab C.V C.L++vb C.vs)
def Ru.l (U:Ru):List Nat:=U.rb::(vb U.jJ++vb U.je++vb U.kF++vb U.i_)
structure Kc where
 g:Value
 v:Value
 t:Value
 o:Value
 c:Value
 qs:Value
 nd:Nat
 steps:Nat->Value
def dx (p:aO) (o:Nat):Value:=let x:=p.vars.getD (o / 3) ⟨0,0,0⟩;if o % 3=0 then ι x.init else if o % 3=1 then ι x.lo else ι x.hi
def bQ (p:aO) (o:Nat):Value:=
 let x:=codeAt0 p (o / 5)
 if o % 5=0 then ι x.op else if o % 5=1 then ι x.a else if o % 5=2 then ι x.b else if o % 5=3 then ι x.c else ι x.d
where codeAt0 (p:aO) (n:Nat):Ins:=p.code.getD n ⟨0,0,0,0,0⟩
def aU (l:List Int) (o:Nat):Value:=ι (l.getD o 0)
structure fI where
 gY:Int
 bt:Int
 fS:Int
 ud:Int
def rD (K:Kc) (C:Co) (p:aO) (c:Cp) (total:Int) (t:fI) (used:Int) (rv:Value):Array Value:=
 #[K.g,K.v,K.t,K.o,ι p.aJ,K.c,ι c.size,K.qs,ι K.nd,ρ C.ab,ρ C.xb,C.vs,ι total,
   ι t.gY,ι t.bt,ι t.fS,ι t.ud,ι used,
   K.steps 0,K.steps 1,K.steps 2,K.steps 3,K.steps 4,K.steps 5,K.steps 6,K.steps 7,K.steps 8,K.steps 9,K.steps 10,K.steps 11,K.steps 12,K.steps 13,K.steps 14,K.steps 15,K.steps 16,K.steps 17,K.steps 18,K.steps 19,K.steps 20,
   K.steps 21,K.steps 22,K.steps 23,K.steps 24,K.steps 25,K.steps 26,K.steps 27,K.steps 28,K.steps 29,K.steps 30,K.steps 31,K.steps 32,K.steps 33,K.steps 34,K.steps 35,K.steps 36,K.steps 37,K.steps 38,K.steps 39,K.steps 40,K.steps 41,rv]
structure qL (w:World) (K:Kc) (p:aO) (c:Cp) (RO:List Nat):Prop where
 g:Row w 4 1 K.g p.ap.length (fun i=> .bool (p.ap.getD i false))
 v:Row w 122 3 K.v p.vars.length (dx p)
 t:Row w 3 1 K.t p.aW.length (aU p.aW)
 o:Row w 3 1 K.o p.on.length (aU p.on)
 cd:Row w 40 5 K.c p.code.length (bQ p)
 qs:Row w 3 1 K.qs c.aI.length (aU c.aI)
 ro:∀b,(b∈vb K.g\/b∈vb K.v\/b∈vb K.t\/b∈vb K.o\/b∈vb K.c\/b∈vb K.qs)->b∈RO
theorem qL.aB {w w':World} {K:Kc} {p:aO} {c:Cp} {RO S:List Nat} (h:qL w K p c RO) (f:ax S w w') (hs:∀b,b∈RO->b∉S):qL w' K p c RO:=
 ⟨h.g.aB f fun b hb=>hs b (h.ro b (.inl (aK.2 hb))),h.v.aB f fun b hb=>hs b (h.ro b (.inr (.inl (aK.2 hb)))),h.t.aB f fun b hb=>hs b (h.ro b (.inr (.inr (.inl (aK.2 hb))))),
   h.o.aB f fun b hb=>hs b (h.ro b (.inr (.inr (.inr (.inl (aK.2 hb)))))),h.cd.aB f fun b hb=>hs b (h.ro b (.inr (.inr (.inr (.inr (.inl (aK.2 hb))))))),h.qs.aB f fun b hb=>hs b (h.ro b (.inr (.inr (.inr (.inr (.inr (aK.2 hb))))))),h.ro⟩
theorem qL.more {w:World} {K:Kc} {p:aO} {c:Cp} {RO RO':List Nat} (h:qL w K p c RO) (hs:∀b,b∈RO->b∈RO'):qL w K p c RO':=
 ⟨h.g,h.v,h.t,h.o,h.cd,h.qs,fun b hb=>hs b (h.ro b hb)⟩
def eS (p:aO) (a:Nd):Nat:=cF p.ap.length fun q=>(a.ls q).length
structure oX (w:World) (C:Co) (RO:List Nat) (K:Kc) (p:aO) (c:Cp) (s:St) (t:fI) (used:Int) (rv:Value):Prop where
 aM:ay w C.mb 113 (rD K C p c s.total t used rv)
 prog:qL w K p c RO
 ar:bP w C.ab C.V C.L K.nd p.ap.length s.a
 ix:cL w C.xb C.xs K.nd (eS p s.a) s.f
 vs:Row w 3 1 C.vs p.vars.length (fun i=> ι (s.vars i))
theorem oX.aB {w w':World} {C:Co} {RO S:List Nat} {K:Kc} {p:aO} {c:Cp} {s:St} {t:fI} {used:Int} {rv:Value} (h:oX w C RO K p c s t used rv) (f:ax S w w') (hs:∀b,b∈C.l->b∉S) (hr:∀b,b∈RO->b∉S):oX w' C RO K p c s t used rv:=
 ⟨h.aM.aB f (hs _ (by simp [Co.l])),h.prog.aB f hr,h.ar.aB f (fun b hb=>hs b (by simp [Co.l,hb])),h.ix.aB f ⟨hs _ (by simp [Co.l]),hs _ (by simp [Co.l])⟩,h.vs.aB f fun b hb=>hs b (by simp [Co.l,aK.2 hb])⟩
theorem oX.more {w:World} {C:Co} {RO RO':List Nat} {K:Kc} {p:aO} {c:Cp} {s:St} {t:fI} {used:Int} {rv:Value} (h:oX w C RO K p c s t used rv) (hs:∀b,b∈RO->b∈RO'):oX w C RO' K p c s t used rv:=
 ⟨h.aM,h.prog.more hs,h.ar,h.ix,h.vs⟩
def aH (x:eW):Array Value:=#[.int .u64 x.key,ι (x.tg 0),ι (x.tg 1),ι (x.tg 2),ι (x.tg 3)]
def fK (w:World) (mb:Nat) (RO:List Nat) (v:Value):sm->Prop
 | .var i oE=>∃(x1 x2 x3:Nat) (op b c d:Int),v= .func (.func 215) #[] #[.pointer (some ⟨x1,0,none⟩),.pointer (some ⟨x2,0,none⟩),.pointer (some ⟨x3,0,none⟩)]/\
     ay w x1 3 #[ι oE]/\ay w x2 35 #[ρ mb]/\ay w x3 40 #[ι op,ι i,ι b,ι c,ι d]/\x1∈RO/\x2∈RO/\x3∈RO
 | .mark oE=>∃(x1 x2:Nat),v= .func (.func 269) #[] #[.pointer (some ⟨x1,0,none⟩),.pointer (some ⟨x2,0,none⟩)]/\
     ay w x1 35 #[ρ mb]/\ay w x2 118 (aH oE)/\x1∈RO/\x2∈RO
 | .cut q e=>∃(x1 x2 x3:Nat),v= .func (.func 271) #[] #[.pointer (some ⟨x1,0,none⟩),.pointer (some ⟨x2,0,none⟩),.pointer (some ⟨x3,0,none⟩)]/\
     ay w x1 35 #[ρ mb]/\ay w x2 3 #[ι q]/\ay w x3 3 #[ι e]/\x1∈RO/\x2∈RO/\x3∈RO
 | .put q e x=>∃(x1 x2 x3 x4:Nat),v= .func (.func 275) #[] #[.pointer (some ⟨x1,0,none⟩),.pointer (some ⟨x2,0,none⟩),.pointer (some ⟨x3,0,none⟩),.pointer (some ⟨x4,0,none⟩)]/\
     ay w x1 35 #[ρ mb]/\ay w x2 3 #[ι q]/\ay w x3 3 #[ι e]/\ay w x4 118 (aH x)/\x1∈RO/\x2∈RO/\x3∈RO/\x4∈RO
 | .out q x ahead=>∃(x1 x2 x3 x4:Nat) (av:Value),v= .func (.func 273) #[] #[.pointer (some ⟨x1,0,none⟩),.pointer (some ⟨x2,0,none⟩),.pointer (some ⟨x3,0,none⟩),.pointer (some ⟨x4,0,none⟩)]/\
     ay w x1 35 #[ρ mb]/\ay w x2 3 #[ι q]/\ay w x3 118 (aH x)/\ay w x4 24 #[av]/\Row w 3 1 av ahead.length (fun i=> ι (ahead.getD i 0:Nat))/\
     x1∈RO/\x2∈RO/\x3∈RO/\x4∈RO/\∀b,b∈vb av->b∈RO
theorem fK.aB {w w':World} {mb:Nat} {RO S:List Nat} {v:Value} {u:sm} (h:fK w mb RO v u) (f:ax S w w') (hs:∀b,b∈RO->b∉S):fK w' mb RO v u:=by
 cases u with
 |var i oE=>obtain ⟨x1,x2,x3,op,b,c,d,h0,h1,h2,h3,r1,r2,r3⟩:=h;exact ⟨x1,x2,x3,op,b,c,d,h0,h1.aB f (hs _ r1),h2.aB f (hs _ r2),h3.aB f (hs _ r3),r1,r2,r3⟩
 |mark oE=>obtain ⟨x1,x2,h0,h1,h2,r1,r2⟩:=h;exact ⟨x1,x2,h0,h1.aB f (hs _ r1),h2.aB f (hs _ r2),r1,r2⟩
 |cut q e=>obtain ⟨x1,x2,x3,h0,h1,h2,h3,r1,r2,r3⟩:=h;exact ⟨x1,x2,x3,h0,h1.aB f (hs _ r1),h2.aB f (hs _ r2),h3.aB f (hs _ r3),r1,r2,r3⟩
 |put q e x=>obtain ⟨x1,x2,x3,x4,h0,h1,h2,h3,h4,r1,r2,r3,r4⟩:=h;exact ⟨x1,x2,x3,x4,h0,h1.aB f (hs _ r1),h2.aB f (hs _ r2),h3.aB f (hs _ r3),h4.aB f (hs _ r4),r1,r2,r3,r4⟩
 |out q x ahead=>obtain ⟨x1,x2,x3,x4,av,h0,h1,h2,h3,h4,h5,r1,r2,r3,r4,r5⟩:=h;exact ⟨x1,x2,x3,x4,av,h0,h1.aB f (hs _ r1),h2.aB f (hs _ r2),h3.aB f (hs _ r3),h4.aB f (hs _ r4),h5.aB f (fun b hb=>hs b (r5 b (aK.2 hb))),r1,r2,r3,r4,r5⟩
theorem fK.more {w:World} {mb:Nat} {RO RO':List Nat} {v:Value} {u:sm} (h:fK w mb RO v u) (hs:∀b,b∈RO->b∈RO'):fK w mb RO' v u:=by
 cases u with
 |var i oE=>obtain ⟨x1,x2,x3,op,b,c,d,h0,h1,h2,h3,r1,r2,r3⟩:=h;exact ⟨x1,x2,x3,op,b,c,d,h0,h1,h2,h3,hs _ r1,hs _ r2,hs _ r3⟩
 |mark oE=>obtain ⟨x1,x2,h0,h1,h2,r1,r2⟩:=h;exact ⟨x1,x2,h0,h1,h2,hs _ r1,hs _ r2⟩
 |cut q e=>obtain ⟨x1,x2,x3,h0,h1,h2,h3,r1,r2,r3⟩:=h;exact ⟨x1,x2,x3,h0,h1,h2,h3,hs _ r1,hs _ r2,hs _ r3⟩
 |put q e x=>obtain ⟨x1,x2,x3,x4,h0,h1,h2,h3,h4,r1,r2,r3,r4⟩:=h;exact ⟨x1,x2,x3,x4,h0,h1,h2,h3,h4,hs _ r1,hs _ r2,hs _ r3,hs _ r4⟩
 |out q x ahead=>obtain ⟨x1,x2,x3,x4,av,h0,h1,h2,h3,h4,h5,r1,r2,r3,r4,r5⟩:=h;exact ⟨x1,x2,x3,x4,av,h0,h1,h2,h3,h4,h5,hs _ r1,hs _ r2,hs _ r3,hs _ r4,fun b hb=>hs b (r5 b hb)⟩
def oY (w:World) (RO:List Nat) (v:Value):Option eW->Prop
 |none=>v= .slice none 0 0
 |some x=>∃b cap,v= .slice (some ⟨b,0,none⟩) 1 cap/\ay w b 118 (aH x)/\b∈RO
theorem oY.aB {w w':World} {RO S:List Nat} {v:Value} {x:Option eW} (h:oY w RO v x) (f:ax S w w') (hs:∀b,b∈RO->b∉S):oY w' RO v x:=by
 cases x with
 |none=>exact h
 |some x=>obtain ⟨b,cap,h0,h1,h2⟩:=h;exact ⟨b,cap,h0,h1.aB f (hs _ h2),h2⟩
theorem oY.more {w:World} {RO RO':List Nat} {v:Value} {x:Option eW} (h:oY w RO v x) (hs:∀b,b∈RO->b∈RO'):oY w RO' v x:=by
 cases x with
 |none=>exact h
 |some x=>obtain ⟨b,cap,h0,h1,h2⟩:=h;exact ⟨b,cap,h0,h1,hs _ h2⟩
structure tI (w:World) (U:Ru) (mb:Nat) (RO:List Nat) (hv:Value) (jv:Nat->Value) (r:Rn):Prop where
 c_:ay w U.rb 126 #[.int .u64 r.key,ι r.at_,U.jJ,U.je,hv,U.kF,ι r.br,U.i_,.bool r.done]
 jJ:Row w 3 1 U.jJ r.stack.length (fun i=> ι (r.stack.reverse.getD i 0))
 je:Row w 3 1 U.je r.loops.length (fun i=> ι (r.loops.reverse.getD i 0))
 kF:Row w 46 1 U.kF r.told.length (fun i=> .int .u64 (r.told.getD i 0:Nat))
 i_:Row w 1 1 U.i_ r.bm.length jv
 NS:∀i u,r.bm.reverse[i]? =some u->fK w mb RO (jv i) u
 gm:oY w RO hv r.hand
theorem tI.aB {w w':World} {U:Ru} {mb:Nat} {RO S:List Nat} {hv:Value} {jv:Nat->Value} {r:Rn} (h:tI w U mb RO hv jv r) (f:ax S w w') (hs:∀b,b∈U.l->b∉S) (hr:∀b,b∈RO->b∉S):tI w' U mb RO hv jv r:=
 ⟨h.c_.aB f (hs _ (by simp [Ru.l])),h.jJ.aB f (fun b hb=>hs b (by simp [Ru.l,aK.2 hb])),h.je.aB f (fun b hb=>hs b (by simp [Ru.l,aK.2 hb])),h.kF.aB f (fun b hb=>hs b (by simp [Ru.l,aK.2 hb])),h.i_.aB f (fun b hb=>hs b (by simp [Ru.l,aK.2 hb])),
   fun i u hu=>(h.NS i u hu).aB f hr,h.gm.aB f hr⟩
theorem tI.more {w:World} {U:Ru} {mb:Nat} {RO RO':List Nat} {hv:Value} {jv:Nat->Value} {r:Rn} (h:tI w U mb RO hv jv r) (hs:∀b,b∈RO->b∈RO'):tI w U mb RO' hv jv r:=
 ⟨h.c_,h.jJ,h.je,h.kF,h.i_,fun i u hu=>(h.NS i u hu).more hs,h.gm.more hs⟩
structure Sep (w:World) (C:Co) (U:Ru) (RO:List Nat):Prop where
 nd:(C.l++U.l).Nodup
 lt:∀b,b∈C.l++U.l->b < w.heap.size
 ro:∀b,b∈C.l++U.l->b∉RO
 cY:∀b,b∈RO->b < w.heap.size
theorem Sep.grow {w w':World} {C:Co} {U:Ru} {RO:List Nat} (h:Sep w C U RO) (hs:w.heap.size<=w'.heap.size):Sep w' C U RO:=
 ⟨h.nd,fun b hb=>Nat.lt_of_lt_of_le (h.lt b hb) hs,h.ro,fun b hb=>Nat.lt_of_lt_of_le (h.cY b hb) hs⟩
structure cD (w:World) (C:Co) (U:Ru) (RO:List Nat) (K:Kc) (p:aO) (c:Cp) (t:fI) (used:Int) (hv:Value) (jv:Nat->Value) (s:St) (r:Rn):Prop where
 m:oX w C RO K p c s t used (ρ U.rb)
 r:tI w U C.mb RO hv jv r
 sep:Sep w C U RO
theorem cD.later {w w':World} {C:Co} {U:Ru} {RO:List Nat} {K:Kc} {p:aO} {c:Cp} {t:fI} {used:Int} {hv:Value} {jv:Nat->Value} {s:St} {r:Rn} (h:cD w C U RO K p c t used hv jv s r) (b:Below w.heap.size w w'):cD w' C U RO K p c t used hv jv s r:=
 ⟨h.m.aB (ax.ah (S:=[]) b) (by simp) (by simp),h.r.aB (ax.ah (S:=[]) b) (by simp) (by simp),h.sep.grow b.size⟩
theorem cD.drewN {w:World} {C:Co} {U:Ru} {RO:List Nat} {K:Kc} {p:aO} {c:Cp} {t:fI} {used:Int} {hv:Value} {jv:Nat->Value} {s:St} {r:Rn} (h:cD w C U RO K p c t used hv jv s r) (n:Nat):cD (w.drewN n) C U RO K p c t used hv jv s r:=
 h.later (au _ _ n)
def zv (v v':Value):Prop:=∀b,b∈vb v->b∉vb v'
theorem zv.symm {v v':Value} (h:zv v v'):zv v' v:=fun b hb iN=>h b iN hb
theorem BD (v:Value):vb v=[]\/∃b,vb v=[b]:=by unfold vb;cases v.ownBlock<;>simp
theorem jw {A B:List Nat} {v v':Value} {n:Nat} (h:(A++(vb v++B)).Nodup) (hl:∀b,b∈A++(vb v++B)->b < n) (hs:∀b,b∈vb v'->b∈vb v\/n<=b):(A++(vb v'++B)).Nodup:=by
 rcases BD v' with e|⟨b,e⟩
 ·rw [e];refine h.sublist ?_;exact List.Sublist.append_left (List.Sublist.append_right (List.nil_sublist _) B) A
 ·rcases hs b (by rw [e];simp) with hb|hb
  ·rcases BD v with e'|⟨b',e'⟩
   ·rw [e'] at hb;simp at hb
   ·rw [e'] at hb;simp at hb;subst hb;rw [e,<-e'];exact h
  ·have hA:b∉A:=fun hx=>by have:=hl b (by simp [hx]);omega
   have hB:b∉B:=fun hx=>by have:=hl b (by simp [hx]);omega
   have h':(A++B).Nodup:=h.sublist (List.Sublist.append_left (List.sublist_append_right _ _) A);rw [e];rw [List.nodup_append] at h' ⊢;refine ⟨h'.1,?_,?_⟩
   ·simp [hB,h'.2.1]
   ·intro x hx y hy;rcases List.mem_append.1 hy with hy|hy
    ·simp at hy;subst hy;intro e2;subst e2;exact hA hx
    ·exact h'.2.2 x hx y hy
structure Xo (U:Ru):Prop where
 s:U.rb∉vb U.jJ
 l:U.rb∉vb U.je
 t:U.rb∉vb U.kF
 j:U.rb∉vb U.i_
 sl:zv U.jJ U.je
 st:zv U.jJ U.kF
 sj:zv U.jJ U.i_
 lt:zv U.je U.kF
 lj:zv U.je U.i_
 tj:zv U.kF U.i_
theorem Ru.rel {U:Ru} (h:U.l.Nodup):Xo U:=by unfold Ru.l at h;rw [List.nodup_cons] at h;obtain ⟨h0,h⟩:=h;simp only [List.mem_append,not_or] at h0;rw [List.nodup_append,List.nodup_append,List.nodup_append] at h;obtain ⟨⟨⟨-,-,h1⟩,-,h2⟩,-,h3⟩:=h;refine ⟨h0.1.1.1,h0.1.1.2,h0.1.2,h0.2,fun b hb hc=>h1 b hb b hc rfl,fun b hb hc=>h2 b (by simp [hb]) b hc rfl,fun b hb hc=>h3 b (by simp [hb]) b hc rfl,fun b hb hc=>h2 b (by simp [hb]) b hc rfl,fun b hb hc=>h3 b (by simp [hb]) b hc rfl,fun b hb hc=>h3 b (by simp [hb]) b hc rfl⟩
section
variable {w w':World} {C:Co} {U U':Ru} {RO RO':List Nat} {K:Kc} {p:aO} {c:Cp} {t:fI} {used:Int} {hv hv':Value} {jv jx:Nat->Value} {s:St} {r r':Rn}
theorem Sep.u (h:Sep w C U RO):Xo U:=Ru.rel (List.nodup_append.1 h.nd).2.1
theorem Sep.cu (h:Sep w C U RO) {b:Nat} (hb:b∈C.l):b∉U.l:=fun hc=>(List.nodup_append.1 h.nd).2.2 b hb b hc rfl
theorem Sep.ur (h:Sep w C U RO) {b:Nat} (hb:b∈RO):b∉U.l:=fun hc=>h.ro b (by simp [hc]) hb
theorem Sep.cr (h:Sep w C U RO) {b:Nat} (hb:b∈RO):b∉C.l:=fun hc=>h.ro b (by simp [hc]) hb
theorem Sep.uc (h:Sep w C U RO) {b:Nat} (hb:b∈U.l):b∉C.l:=fun hc=>h.cu hc hb
theorem cD.runs (h:cD w C U RO K p c t used hv jv s r) (f:ax U.l w w') (lE:U'.rb=U.rb) (ho:∀b,b∈RO->b∈RO') (hn:∀b,b∈RO'->b∈RO\/(w.heap.size<=b/\b < w'.heap.size/\b∉U'.l))
 (hr:tI w' U' C.mb RO' hv' jx r') (gm:(C.l++U'.l).Nodup) (hu:∀b,b∈U'.l->(b∈U.l\/w.heap.size<=b)/\b < w'.heap.size):cD w' C U' RO' K p c t used hv' jx s r':=by
 refine ⟨?_,hr,gm,?_,?_,?_⟩
 ·rw [lE];exact (h.m.aB f (fun b hb=>h.sep.cu hb) (fun b hb=>h.sep.ur hb)).more ho
 ·intro b hb;rcases List.mem_append.1 hb with hb|hb
  ·exact Nat.lt_of_lt_of_le (h.sep.lt b (by simp [hb])) f.size
  ·exact (hu b hb).2
 ·intro b hb hc;rcases hn b hc with hc|⟨h1,h2,h3⟩
  ·rcases List.mem_append.1 hb with hb|hb
   ·exact h.sep.cr hc hb
   ·rcases (hu b hb).1 with hb|hb
    ·exact h.sep.ur hc hb
    ·have:=h.sep.cY b hc;omega
  ·rcases List.mem_append.1 hb with hb|hb
   ·have:=h.sep.lt b (by simp [hb]);omega
   ·exact h3 hb
 ·intro b hb;rcases hn b hb with hb|hb
  ·exact Nat.lt_of_lt_of_le (h.sep.cY b hb) f.size
  ·exact hb.2.1
theorem cD.iu (h:cD w C U RO K p c t used hv jv s r) (o:Nat) (v:Value) (hb:(#[.int .u64 r.key,ι r.at_,U.jJ,U.je,hv,U.kF,ι r.br,U.i_,.bool r.done]:Array Value).setIfInBounds o v=#[.int .u64 r'.key,ι r'.at_,U'.jJ,U'.je,hv',U'.kF,ι r'.br,U'.i_,.bool r'.done])
 (hU:U'=U) (e1:r'.stack=r.stack) (e2:r'.loops=r.loops) (e3:r'.told=r.told) (e4:r'.bm=r.bm) (hh:oY w RO hv' r'.hand):cD (w.setCell (π U.rb o) v) C U RO K p c t used hv' jv s r':=by
 subst hU;have F:ax [U'.rb] w (w.setCell (π U'.rb o) v):=(ax.refl _ w).setCell (by simp) _;have F2:ax U'.l w (w.setCell (π U'.rb o) v):=F.mono (by intro k hk;simp at hk;subst hk;simp [Ru.l]);have R:=h.sep.u;have mR:∀b,b∈RO->b∉[U'.rb]:=fun b hb=>by have:=h.sep.ur hb;simp [Ru.l] at this ⊢;exact this.1
 refine h.runs F2 rfl (fun b hb=>hb) (fun b hb=> .inl hb) ⟨?_,?_,?_,?_,?_,?_,?_⟩ h.sep.nd (fun b hb=>⟨.inl hb,Nat.lt_of_lt_of_le (h.sep.lt b (by simp [hb])) F.size⟩)
 ·rw [<-hb];exact h.r.c_.set o v
 ·rw [e1];exact h.r.jJ.aB F fun b hb=>by simp;rintro rfl;exact R.s (aK.2 hb)
 ·rw [e2];exact h.r.je.aB F fun b hb=>by simp;rintro rfl;exact R.l (aK.2 hb)
 ·rw [e3];exact h.r.kF.aB F fun b hb=>by simp;rintro rfl;exact R.t (aK.2 hb)
 ·rw [e4];exact h.r.i_.aB F fun b hb=>by simp;rintro rfl;exact R.j (aK.2 hb)
 ·rw [e4];exact fun i u hu=>(h.r.NS i u hu).aB F mR
 ·exact hh.aB F mR
end
section
variable {w w':World} {C:Co} {U U':Ru} {RO RO':List Nat} {K:Kc} {p:aO} {c:Cp} {t:fI} {used:Int} {hv hv':Value} {jv jx:Nat->Value} {s:St} {r r':Rn}
theorem acb {p:Prop} (h:p:=by
 have:=h.sep.ur hb;simp [Ru.l] at this ⊢;simp [this]):p:=h
theorem aca {p:Prop} (h:p:=by
 have key:b∈U.l\/b∈vb v:=by simp only [Ru.l,List.mem_cons,List.mem_append];rcases hb with hb|((hb|hb)|hb)|hb<;>simp [hb]
 rcases key with hb|hb
 ·exact ⟨.inl hb,kN b hb⟩
 ·refine ⟨?_,by simpa using a8 b hb⟩;rcases hs b hb with hb|hb
  ·exact .inl (by simp [Ru.l,hb])
  ·exact .inr hb):p:=h
theorem cD.jJ (h:cD w C U RO K p c t used hv jv s r) {v:Value} {l:List Int} (f:ax (vb U.jJ) w w') (bq:Row w' 3 1 v l.length (fun i=> ι (l.reverse.getD i 0))) (hs:∀b,b∈vb v->b∈vb U.jJ\/w.heap.size<=b):cD (w'.setCell (π U.rb 2) v) C {U with jJ:=v} RO K p c t used hv jv s {r with stack:=l}:=by
 have R:=h.sep.u;have F:ax (U.rb::vb U.jJ) w (w'.setCell (π U.rb 2) v):=(f.mono (by intro k hk;simp [hk])).setCell (by simp) _;have F2:ax U.l w (w'.setCell (π U.rb 2) v):=F.mono (by intro k hk;simp at hk;rcases hk with rfl|hk;simp [Ru.l];simp [Ru.l,hk]);have mR:∀b,b∈RO->b∉U.rb::vb U.jJ:=fun b hb=>by exact acb
 have hblk:ay w' U.rb 126 #[.int .u64 r.key,ι r.at_,U.jJ,U.je,hv,U.kF,ι r.br,U.i_,.bool r.done]:=h.r.c_.aB f R.s;have a8:∀b,b∈vb v->b < w'.heap.size:=fun b hb=>(World.ownsRow.lt bq b (aK.1 hb)).2;have Rf:v.ownBlock≠some U.rb:=bq.eF hblk (by decide);refine h.runs (U':={U with jJ:=v}) F2 rfl (fun b hb=>hb) (fun b hb=> .inl hb) ⟨?_,?_,?_,?_,?_,?_,?_⟩ ?_ (fun b hb=>?_)
 ·exact hblk.set 2 v
 ·exact bq.other Rf _ _
 ·exact h.r.je.aB F fun b hb=>by simp;exact ⟨by rintro rfl;exact R.l (aK.2 hb),R.sl.symm b (aK.2 hb)⟩
 ·exact h.r.kF.aB F fun b hb=>by simp;exact ⟨by rintro rfl;exact R.t (aK.2 hb),R.st.symm b (aK.2 hb)⟩
 ·exact h.r.i_.aB F fun b hb=>by simp;exact ⟨by rintro rfl;exact R.j (aK.2 hb),R.sj.symm b (aK.2 hb)⟩
 ·exact fun i u hu=>(h.r.NS i u hu).aB F mR
 ·exact h.r.gm.aB F mR
 ·have e1:C.l++U.l=(C.l++[U.rb])++(vb U.jJ++(vb U.je++vb U.kF++vb U.i_)):=by simp [Ru.l]
  have e2:C.l++({U with jJ:=v}:Ru).l=(C.l++[U.rb])++(vb v++(vb U.je++vb U.kF++vb U.i_)):=by simp [Ru.l]
  rw [e2];refine jw (n:=w.heap.size) (v:=U.jJ) ?_ (fun b hb=>?_) hs
  ·rw [<-e1];exact h.sep.nd
  ·rw [<-e1] at hb;exact h.sep.lt b hb
 ·simp only [Ru.l,List.mem_cons,List.mem_append] at hb;have kN:∀b,b∈U.l->b < (w'.setCell (π U.rb 2) v).heap.size:=fun b hb=>Nat.lt_of_lt_of_le (h.sep.lt b (by simp [hb])) F.size;exact aca
theorem cD.je (h:cD w C U RO K p c t used hv jv s r) {v:Value} {l:List Int} (f:ax (vb U.je) w w') (bq:Row w' 3 1 v l.length (fun i=> ι (l.reverse.getD i 0))) (hs:∀b,b∈vb v->b∈vb U.je\/w.heap.size<=b):cD (w'.setCell (π U.rb 3) v) C {U with je:=v} RO K p c t used hv jv s {r with loops:=l}:=by
 have R:=h.sep.u;have F:ax (U.rb::vb U.je) w (w'.setCell (π U.rb 3) v):=(f.mono (by intro k hk;simp [hk])).setCell (by simp) _;have F2:ax U.l w (w'.setCell (π U.rb 3) v):=F.mono (by intro k hk;simp at hk;rcases hk with rfl|hk;simp [Ru.l];simp [Ru.l,hk]);have mR:∀b,b∈RO->b∉U.rb::vb U.je:=fun b hb=>by exact acb
 have hblk:ay w' U.rb 126 #[.int .u64 r.key,ι r.at_,U.jJ,U.je,hv,U.kF,ι r.br,U.i_,.bool r.done]:=h.r.c_.aB f R.l;have a8:∀b,b∈vb v->b < w'.heap.size:=fun b hb=>(World.ownsRow.lt bq b (aK.1 hb)).2;have Rf:v.ownBlock≠some U.rb:=bq.eF hblk (by decide);refine h.runs (U':={U with je:=v}) F2 rfl (fun b hb=>hb) (fun b hb=> .inl hb) ⟨?_,?_,?_,?_,?_,?_,?_⟩ ?_ (fun b hb=>?_)
 ·exact hblk.set 3 v
 ·exact h.r.jJ.aB F fun b hb=>by simp;exact ⟨by rintro rfl;exact R.s (aK.2 hb),R.sl b (aK.2 hb)⟩
 ·exact bq.other Rf _ _
 ·exact h.r.kF.aB F fun b hb=>by simp;exact ⟨by rintro rfl;exact R.t (aK.2 hb),R.lt.symm b (aK.2 hb)⟩
 ·exact h.r.i_.aB F fun b hb=>by simp;exact ⟨by rintro rfl;exact R.j (aK.2 hb),R.lj.symm b (aK.2 hb)⟩
 ·exact fun i u hu=>(h.r.NS i u hu).aB F mR
 ·exact h.r.gm.aB F mR
 ·have e1:C.l++U.l=(C.l++U.rb::vb U.jJ)++(vb U.je++(vb U.kF++vb U.i_)):=by simp [Ru.l]
  have e2:C.l++({U with je:=v}:Ru).l=(C.l++U.rb::vb U.jJ)++(vb v++(vb U.kF++vb U.i_)):=by simp [Ru.l]
  rw [e2];refine jw (n:=w.heap.size) (v:=U.je) ?_ (fun b hb=>?_) hs
  ·rw [<-e1];exact h.sep.nd
  ·rw [<-e1] at hb;exact h.sep.lt b hb
 ·simp only [Ru.l,List.mem_cons,List.mem_append] at hb;have kN:∀b,b∈U.l->b < (w'.setCell (π U.rb 3) v).heap.size:=fun b hb=>Nat.lt_of_lt_of_le (h.sep.lt b (by simp [hb])) F.size;exact aca
theorem cD.kF (h:cD w C U RO K p c t used hv jv s r) {v:Value} {l:List Nat} (f:ax (vb U.kF) w w') (bq:Row w' 46 1 v l.length (fun i=> .int .u64 (l.getD i 0:Nat))) (hs:∀b,b∈vb v->b∈vb U.kF\/w.heap.size<=b):cD (w'.setCell (π U.rb 5) v) C {U with kF:=v} RO K p c t used hv jv s {r with told:=l}:=by
 have R:=h.sep.u;have F:ax (U.rb::vb U.kF) w (w'.setCell (π U.rb 5) v):=(f.mono (by intro k hk;simp [hk])).setCell (by simp) _;have F2:ax U.l w (w'.setCell (π U.rb 5) v):=F.mono (by intro k hk;simp at hk;rcases hk with rfl|hk;simp [Ru.l];simp [Ru.l,hk]);have mR:∀b,b∈RO->b∉U.rb::vb U.kF:=fun b hb=>by exact acb
 have hblk:ay w' U.rb 126 #[.int .u64 r.key,ι r.at_,U.jJ,U.je,hv,U.kF,ι r.br,U.i_,.bool r.done]:=h.r.c_.aB f R.t;have a8:∀b,b∈vb v->b < w'.heap.size:=fun b hb=>(World.ownsRow.lt bq b (aK.1 hb)).2;have Rf:v.ownBlock≠some U.rb:=bq.eF hblk (by decide);refine h.runs (U':={U with kF:=v}) F2 rfl (fun b hb=>hb) (fun b hb=> .inl hb) ⟨?_,?_,?_,?_,?_,?_,?_⟩ ?_ (fun b hb=>?_)
 ·exact hblk.set 5 v
 ·exact h.r.jJ.aB F fun b hb=>by simp;exact ⟨by rintro rfl;exact R.s (aK.2 hb),R.st b (aK.2 hb)⟩
 ·exact h.r.je.aB F fun b hb=>by simp;exact ⟨by rintro rfl;exact R.l (aK.2 hb),R.lt b (aK.2 hb)⟩
 ·exact bq.other Rf _ _
 ·exact h.r.i_.aB F fun b hb=>by simp;exact ⟨by rintro rfl;exact R.j (aK.2 hb),R.tj.symm b (aK.2 hb)⟩
 ·exact fun i u hu=>(h.r.NS i u hu).aB F mR
 ·exact h.r.gm.aB F mR
 ·have e1:C.l++U.l=(C.l++U.rb::(vb U.jJ++vb U.je))++(vb U.kF++vb U.i_):=by simp [Ru.l]
  have e2:C.l++({U with kF:=v}:Ru).l=(C.l++U.rb::(vb U.jJ++vb U.je))++(vb v++vb U.i_):=by simp [Ru.l]
  rw [e2];refine jw (n:=w.heap.size) (v:=U.kF) ?_ (fun b hb=>?_) hs
  ·rw [<-e1];exact h.sep.nd
  ·rw [<-e1] at hb;exact h.sep.lt b hb
 ·simp only [Ru.l,List.mem_cons,List.mem_append] at hb;have kN:∀b,b∈U.l->b < (w'.setCell (π U.rb 5) v).heap.size:=fun b hb=>Nat.lt_of_lt_of_le (h.sep.lt b (by simp [hb])) F.size;exact aca
theorem cD.i_ (h:cD w C U RO K p c t used hv jv s r) {v:Value} {l:List sm} (f:ax (vb U.i_) w w') (bq:Row w' 1 1 v l.length (jx)) (hs:∀b,b∈vb v->b∈vb U.i_\/w.heap.size<=b) (hj:∀i u,l.reverse[i]? =some u->fK (w'.setCell (π U.rb 7) v) C.mb RO' (jx i) u) (ho:∀b,b∈RO->b∈RO') (hn:∀b,b∈RO'->b∈RO\/(w.heap.size<=b/\b < w'.heap.size/\b∉vb v)):cD (w'.setCell (π U.rb 7) v) C {U with i_:=v} RO' K p c t used hv jx s {r with bm:=l}:=by
 have R:=h.sep.u;have F:ax (U.rb::vb U.i_) w (w'.setCell (π U.rb 7) v):=(f.mono (by intro k hk;simp [hk])).setCell (by simp) _;have F2:ax U.l w (w'.setCell (π U.rb 7) v):=F.mono (by intro k hk;simp at hk;rcases hk with rfl|hk;simp [Ru.l];simp [Ru.l,hk]);have mR:∀b,b∈RO->b∉U.rb::vb U.i_:=fun b hb=>by exact acb
 have hblk:ay w' U.rb 126 #[.int .u64 r.key,ι r.at_,U.jJ,U.je,hv,U.kF,ι r.br,U.i_,.bool r.done]:=h.r.c_.aB f R.j;have a8:∀b,b∈vb v->b < w'.heap.size:=fun b hb=>(World.ownsRow.lt bq b (aK.1 hb)).2;have Rf:v.ownBlock≠some U.rb:=bq.eF hblk (by decide);refine h.runs (U':={U with i_:=v}) F2 rfl ho (fun b hb=>?_) ⟨?_,?_,?_,?_,?_,?_,?_⟩ ?_ (fun b hb=>?_)
 ·rcases hn b hb with hb|⟨h1,h2,h3⟩
  ·exact .inl hb
  ·refine .inr ⟨h1,by simpa using h2,?_⟩;intro hc;simp only [Ru.l,List.mem_cons,List.mem_append] at hc;rcases hc with rfl|((hc|hc)|hc)|hc
   ·have:=h.sep.lt U.rb (by simp [Ru.l]);omega
   ·have:=h.sep.lt b (by simp [Ru.l,hc]);omega
   ·have:=h.sep.lt b (by simp [Ru.l,hc]);omega
   ·have:=h.sep.lt b (by simp [Ru.l,hc]);omega
   ·exact h3 hc
 ·exact hblk.set 7 v
 ·exact h.r.jJ.aB F fun b hb=>by simp;exact ⟨by rintro rfl;exact R.s (aK.2 hb),R.sj b (aK.2 hb)⟩
 ·exact h.r.je.aB F fun b hb=>by simp;exact ⟨by rintro rfl;exact R.l (aK.2 hb),R.lj b (aK.2 hb)⟩
 ·exact h.r.kF.aB F fun b hb=>by simp;exact ⟨by rintro rfl;exact R.t (aK.2 hb),R.tj b (aK.2 hb)⟩
 ·exact bq.other Rf _ _
 ·exact hj
 ·exact (h.r.gm.aB F mR).more ho
 ·have e1:C.l++U.l=(C.l++U.rb::(vb U.jJ++vb U.je++vb U.kF))++(vb U.i_++[]):=by simp [Ru.l]
  have e2:C.l++({U with i_:=v}:Ru).l=(C.l++U.rb::(vb U.jJ++vb U.je++vb U.kF))++(vb v++[]):=by simp [Ru.l]
  rw [e2];refine jw (n:=w.heap.size) (v:=U.i_) ?_ (fun b hb=>?_) hs
  ·rw [<-e1];exact h.sep.nd
  ·rw [<-e1] at hb;exact h.sep.lt b hb
 ·simp only [Ru.l,List.mem_cons,List.mem_append] at hb;have kN:∀b,b∈U.l->b < (w'.setCell (π U.rb 7) v).heap.size:=fun b hb=>Nat.lt_of_lt_of_le (h.sep.lt b (by simp [hb])) F.size;exact aca
end
end Go.Proofs.YtblkblclmbhjiaaGreat.Ma
