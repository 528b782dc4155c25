/- Of the proof that VmSound holds: states, answers, statistics and layouts are as they must be. No condition. -/
import Derived.Test.YtblkblclmbhjiaaGreatZ10
import Derived.ProofKit
import Derived.ShutString
import Derived.ChangeOld
import Derived.Below
set_option linter.all false
set_option maxHeartbeats 40000000
set_option maxRecDepth 100000
open Go.Proofs.Tryz
open Option renaming some->O,none->Xb
open Go renaming Value->to,World->ek
open Go.Value renaming slice->H
open Go.Obj renaming cells->Xe
open Go.Ending renaming returned->Xc
open Go.World renaming cell?->Xf
namespace Go.Proofs.YtblkblclmbhjiaaGreat.vmSound
open Go.ChangeShapes Go.WideShapes Go.ChangeAt Go.RowKit al Go.Deep
open Go.ChangeMaps (open_string shut_string)
open Ma
theorem own:ownKnob prog.godebug=Xb:=by kernel_rfl
theorem laidOut:laidOutB prog=true:=by kernel_rfl
theorem abL{a0g:Type}{enc:TypeId×to->a0g}{w:ek}{base:Nat}{spare:Nat->Bool}{held:Bool}{a:Option Addr}{len cap:Nat}(h:Rd enc prog w base spare held 30 [H a len cap]):AH w a len:=by
 rcases h.rows underlying30 with h|⟨a',agL,pq,h,h1,h2,h3⟩
 ·simp at h;obtain⟨rfl,rfl,rfl⟩:=h;exact⟨ck _,λi hi=>G⟩
 ·simp at h;obtain⟨rfl,rfl,rfl⟩:=h;rw[show prog.cellsOf 48=2 from by kernel_rfl]at h3;refine⟨G,λi hi=>?_⟩;obtain⟨cs,hl,hc,hr⟩:=h3 i hi;obtain⟨-,hf⟩:=hr.fields underlying48 bj bj;obtain⟨v0,e0,r0⟩:=hf 0 _ rfl;obtain⟨v1,e1,r1⟩:=hf 1 _ rfl;obtain⟨x0,rfl,-⟩:=r0.int underlying3;obtain⟨x1,rfl,w1⟩:=r1.int underlying46;have X:=bounds_u64 w1;obtain⟨kk,rfl⟩:=eS X.1;obtain⟨DI,-,zd,hr0⟩:=h3 0 G;obtain⟨-,hf0⟩:=hr0.fields underlying48 bj bj;obtain⟨u,eu,-⟩:=hf0 0 _ rfl;have hz:∃u,Xf w (a'.add 0)=O u:=⟨u,by have:=zd 0 G;rw[eu]at this;simpa using this⟩;have k0:=at_plain ((hc 0 G).trans e0) hz;have k1:=at_plain ((hc 1 G).trans e1) hz;obtain⟨b,off,sp⟩:=a';obtain⟨hs,k0⟩:=k0;dsimp only at hs;subst hs;exact⟨b,off,rfl,x0,kk,G,k0,k1.2⟩
theorem lifted(os:Os)(started:os.Started)(a0g:Type)(enc:TypeId×to->a0g):
 ReturnsInHanded {} Tryz.checked os 6 .any (Rows.vmSoundSpec.pre6 enc prog Tryz.f6 Rows.vmSoundRow.domain false) (Rows.vmSoundSpec.post enc prog Tryz.f6 false true false false):=by
 refine returnsInHanded_of_change (C:=Tryz.checked) own started bj func6
  (ChangeSpec.witness6 (enc:=enc) (C:=Tryz.checked) false ⟨#[],#[.agg #[Xd,Xd,Xd,Xd,Y 0,Xd],.agg #[Y 0,Xd],Xd],[]⟩ 8 bj bj bj bj) ?_
 intro W base args ds gs before Za hW agM _;have ia:∀(j:Nat) t v,Tryz.f6.params[j]? =O t->args[j]? =O v->Value.okWide prog W .any base t v:=Za;have Fl:=hW;obtain⟨p,q,hA0,hV,rfl,xz,iE⟩:=hW;have hA:DataW.TrodAll enc prog W 0 (λ_=>true) true Tryz.f6.params.toList args.toList ds p:=hA0;rw[params6]at hA ia;obtain⟨v0,vs0,d0,ds0,p0,q0,af7,rfl,rfl,h0,r0⟩:=trodAll_cons hA;obtain⟨v1,vs1,d1,ds1,p1,q1,rfl,rfl,rfl,h1,r1⟩:=trodAll_cons r0;obtain⟨v2,vs2,d2,ds2,p2,q2,rfl,rfl,rfl,h2,r2⟩:=trodAll_cons r1;obtain⟨rfl,rfl,rfl⟩:=trodAll_nil r2;obtain rfl:args=#[v0,v1,v2]:=by cases args;simp_all
 obtain⟨rfl,rfl⟩:=trodVars_none hV;obtain⟨DI,e0,-⟩:=okWide_struct underlying27 (ia 0 27 v0 rfl rfl);obtain⟨cs1,e1,-⟩:=okWide_struct underlying29 (ia 1 29 v1 rfl rfl);obtain⟨a2,af3,DN,rfl⟩:=okWide_slice underlying30 (ia 2 30 v2 rfl rfl);have k0:=h0;have k1:=h1;have k2:=h2;have lt0:∀x∈p0,x.block<W.heap.size:=by obtain⟨m,hm⟩:=k0;exact DataW.trod_lt m _ _ _ hm
 have lt1:∀x∈p1,x.block<W.heap.size:=by obtain⟨m,hm⟩:=k1;exact DataW.trod_lt m _ _ _ hm
 have lt2:∀x∈p2,x.block<W.heap.size:=by obtain⟨m,hm⟩:=k2;exact DataW.trod_lt m _ _ _ hm
 obtain⟨K,pr,a0m,hp⟩:∃K pr,v0=Vf.pV K pr/\Vf.gM W K pr:=by obtain⟨jj,hf⟩:=h0;subst e0;exact acm rfl ⟨jj,_,hf⟩
 obtain⟨c,qv,ec,hq⟩:∃c qv,v1=Vf.cV c qv/\Vf.aY W 1 qv c.aF.length (bd c.aF):=by obtain⟨jj,hf⟩:=h1;subst e1;exact ack rfl ⟨jj,_,hf⟩
 have ho:AH W a2 af3:=by obtain⟨jj,hf⟩:=h2;exact abL ⟨jj,_,hf⟩
 have Zb:=a0l (sc:=DN) hp hq ho;rw[<-a0m,<-ec]at Zb;clear hA0 Za;refine Zb.mono λe W' ⟨he,uo⟩=>?_;subst he;exact⟨_,rfl,_,_,_,[],_,[],Fl,trodAll_mk1 (shut_bool underlying4 _),(trodAll_cons_mk (Below.trod laidOut bj (xj bj) k0 uo lt0) (trodAll_cons_mk (Below.trod laidOut bj (xj bj) k1 uo lt1) (trodAll_cons_mk (Below.trod laidOut bj (xj bj) k2 uo lt2) trodAll_mk0))),rfl,uo.frame _,λh=>by cases h⟩
theorem k11:(Rows.vmSoundRow.unfollowed==Tryz.pinned.checked.prog.unfollowed 6)=true:=by kernel_rfl
theorem k12:(Rows.vmSoundRow.recurses==Tryz.pinned.checked.prog.recurses 6)=true:=by kernel_rfl
theorem k10:(Rows.vmSoundRow.inPlace==Tryz.pinned.checked.prog.inPlace 6)=true:=by kernel_rfl
theorem k13:(Rows.vmSoundRow.named==Tryz.pinned.checked.prog.varsNamed 6)=true:=by kernel_rfl
theorem closed:joinedFacts Tryz.pinned.checked.prog 6 Tryz.f6 Rows.vmSoundSpec Rows.vmSoundRow=true:=by unfold joinedFacts;rw[k10,k11,k12,k13];kernel_rfl
theorem QS:Rows.vmSoundRow.holds Tryz.pinned (OpenSpec.ofChange Rows.vmSoundSpec):=
 OpenClaim.holds_of_wide 6 Tryz.f6 rfl rfl rfl rfl rfl rfl rfl ⟨rfl,rfl,rfl,rfl,rfl⟩ rfl rfl rfl rfl rfl bj func6 closed
  (xj bj) (by unfold Func.isWrapper;first|(rw[aE (by decide+kernel)];kernel_rfl)|(rw[ax (by decide+kernel)];exact⟨rfl,rfl⟩))
  (λos started a0g enc _=>lifted os started a0g enc)
theorem proved:Rows.VmSoundSaid:=QS
end Go.Proofs.YtblkblclmbhjiaaGreat.vmSound
