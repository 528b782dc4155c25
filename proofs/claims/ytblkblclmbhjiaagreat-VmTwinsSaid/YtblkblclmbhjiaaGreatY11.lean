/- Of the proof that VmTwins holds: twins go apart, each as it would alone. No condition. -/
import Derived.Test.YtblkblclmbhjiaaGreatY10
import Derived.ProofKit
import Derived.ShutString
import Derived.ChangeOld
import Derived.Below
set_option linter.all false
set_option maxHeartbeats 40000000
set_option maxRecDepth 100000
open Go.Proofs.Tryz
open Option renaming some->O,none->MT
open Go renaming Value->to,World->ek
open Go.Value renaming slice->H
open Go.Obj renaming cells->CA
open Go.Ending renaming returned->Vl
open Go.World renaming cell?->Vo
namespace Go.Proofs.YtblkblclmbhjiaaGreat.vmTwins
open Go.ChangeShapes Go.WideShapes Go.ChangeAt Go.RowKit aj Go.Deep
open Go.ChangeMaps (open_string shut_string)
open Ma
theorem own:ownKnob prog.godebug=MT:=by kernel_rfl
theorem laidOut:laidOutB prog=true:=by kernel_rfl
theorem I6{a0g:Type}{enc:TypeId×to->a0g}{w:ek}{base:Nat}{spare:Nat->Bool}{held:Bool}{a:Option Addr}{len cap:Nat}(h:Rd enc prog w base spare held 30 [H a len cap]):um w a len:=by
 rcases h.rows underlying30 with h|⟨a',afA,oh,h,h1,h2,h3⟩
 ·simp at h;obtain⟨rfl,rfl,rfl⟩:=h;exact⟨cM _,λi hi=>G⟩
 ·simp at h;obtain⟨rfl,rfl,rfl⟩:=h;rw[show prog.cellsOf 48=2 from by kernel_rfl]at h3;refine⟨G,λi hi=>?_⟩;obtain⟨cs,hl,hc,hr⟩:=h3 i hi;obtain⟨-,hf⟩:=hr.fields underlying48 bh bh;obtain⟨v0,e0,r0⟩:=hf 0 _ rfl;obtain⟨v1,e1,r1⟩:=hf 1 _ rfl;obtain⟨x0,rfl,-⟩:=r0.int underlying3;obtain⟨x1,rfl,w1⟩:=r1.int underlying46;have X:=bounds_u64 w1;obtain⟨kk,rfl⟩:=eJ X.1;obtain⟨CC,-,xH,ZA⟩:=h3 0 G;obtain⟨-,hf0⟩:=ZA.fields underlying48 bh bh;obtain⟨u,eu,-⟩:=hf0 0 _ rfl;have hz:∃u,Vo w (a'.add 0)=O u:=⟨u,by have:=xH 0 G;rw[eu]at this;simpa using this⟩;have k0:=at_plain ((hc 0 G).trans e0) hz;have k1:=at_plain ((hc 1 G).trans e1) hz;obtain⟨b,off,sp⟩:=a';obtain⟨hs,k0⟩:=k0;dsimp only at hs;subst hs;exact⟨b,off,rfl,x0,kk,G,k0,k1.2⟩
theorem lifted(os:Os)(started:os.Started)(a0g:Type)(enc:TypeId×to->a0g):
 ReturnsInHanded {} Tryz.checked os 9 .any (Rows.vmTwinsSpec.pre6 enc prog Tryz.f9 Rows.vmTwinsRow.domain false) (Rows.vmTwinsSpec.post enc prog Tryz.f9 false true false false):=by
 refine returnsInHanded_of_change (C:=Tryz.checked) own started bh func9
  (ChangeSpec.witness6 (enc:=enc) (C:=Tryz.checked) false ⟨#[],#[.agg #[Vn,Vn,Vn,Vn,Y 0,Vn],.agg #[Y 0,Vn],Vn,Vn,Vn],[]⟩ 8 bh bh bh bh) ?_
 intro W base args ds gs before Xv hW afB _;have iE:∀(j:Nat) t v,Tryz.f9.params[j]? =O t->args[j]? =O v->Value.okWide prog W .any base t v:=Xv;have Ei:=hW;obtain⟨p,q,hA0,hV,rfl,vT,gP⟩:=hW;have hA:DataW.TrodAll enc prog W 0 (λ_=>true) true Tryz.f9.params.toList args.toList ds p:=hA0;rw[params9]at hA iE;obtain⟨v0,vs0,d0,ds0,p0,q0,aeY,rfl,rfl,h0,r0⟩:=trodAll_cons hA;obtain⟨v1,vs1,d1,ds1,p1,q1,rfl,rfl,rfl,h1,r1⟩:=trodAll_cons r0;obtain⟨v2,vs2,d2,ds2,p2,q2,rfl,rfl,rfl,h2,r2⟩:=trodAll_cons r1;obtain⟨v3,vs3,d3,ds3,p3,q3,rfl,rfl,rfl,h3,r3⟩:=trodAll_cons r2;obtain⟨v4,vs4,d4,ds4,p4,q4,rfl,rfl,rfl,h4,r4⟩:=trodAll_cons r3;obtain⟨rfl,rfl,rfl⟩:=trodAll_nil r4;obtain rfl:args=#[v0,v1,v2,v3,v4]:=by cases args;simp_all
 obtain⟨rfl,rfl⟩:=trodVars_none hV;obtain⟨CC,e0,-⟩:=okWide_struct underlying27 (iE 0 27 v0 rfl rfl);obtain⟨cs1,e1,-⟩:=okWide_struct underlying29 (iE 1 29 v1 rfl rfl);obtain⟨a2,aeQ,CH,rfl⟩:=okWide_slice underlying30 (iE 2 30 v2 rfl rfl);obtain⟨a3,aeR,aeS,rfl⟩:=okWide_slice underlying30 (iE 3 30 v3 rfl rfl);obtain⟨a4,aeT,aeU,rfl⟩:=okWide_slice underlying30 (iE 4 30 v4 rfl rfl);have k0:=h0;have k1:=h1;have k2:=h2;have k3:=h3;have k4:=h4;have lt0:∀x∈p0,x.block<W.heap.size:=by obtain⟨m,hm⟩:=k0;exact DataW.trod_lt m _ _ _ hm
 have lt1:∀x∈p1,x.block<W.heap.size:=by obtain⟨m,hm⟩:=k1;exact DataW.trod_lt m _ _ _ hm
 have lt2:∀x∈p2,x.block<W.heap.size:=by obtain⟨m,hm⟩:=k2;exact DataW.trod_lt m _ _ _ hm
 have Qo:∀x∈p3,x.block<W.heap.size:=by obtain⟨m,hm⟩:=k3;exact DataW.trod_lt m _ _ _ hm
 have lt4:∀x∈p4,x.block<W.heap.size:=by obtain⟨m,hm⟩:=k4;exact DataW.trod_lt m _ _ _ hm
 obtain⟨K,pr,a0k,hp⟩:∃K pr,v0=Vf.pV K pr/\Vf.fW W K pr:=by obtain⟨gS,hf⟩:=h0;subst e0;exact ad2 rfl ⟨gS,_,hf⟩
 obtain⟨c,qv,ec,hq⟩:∃c qv,v1=Vf.cV c qv/\Vf.aZ W 1 qv c.aK.length (aX c.aK):=by obtain⟨gS,hf⟩:=h1;subst e1;exact ad1 rfl ⟨gS,_,hf⟩
 have Cw:um W a2 aeQ:=by obtain⟨gS,hf⟩:=h2;exact I6 ⟨gS,_,hf⟩
 have Cu:um W a3 aeR:=by obtain⟨gS,hf⟩:=h3;exact I6 ⟨gS,_,hf⟩
 have Jv:um W a4 aeT:=by obtain⟨gS,hf⟩:=h4;exact I6 ⟨gS,_,hf⟩
 have Xw:=a0h (c2:=CH) (c3:=aeS) (c4:=aeU) hp hq Cw Cu Jv;rw[<-a0k,<-ec]at Xw;clear hA0 Xv;refine Xw.mono λe W' ⟨he,rO⟩=>?_;subst he;exact⟨_,rfl,_,_,_,[],_,[],Ei,trodAll_mk1 (shut_bool underlying4 _),(trodAll_cons_mk (Below.trod laidOut bh (rS bh) k0 rO lt0) (trodAll_cons_mk (Below.trod laidOut bh (rS bh) k1 rO lt1) (trodAll_cons_mk (Below.trod laidOut bh (rS bh) k2 rO lt2) (trodAll_cons_mk (Below.trod laidOut bh (rS bh) k3 rO Qo) (trodAll_cons_mk (Below.trod laidOut bh (rS bh) k4 rO lt4) trodAll_mk0))))),rfl,rO.frame _,λh=>by cases h⟩
theorem k11:(Rows.vmTwinsRow.unfollowed==Tryz.pinned.checked.prog.unfollowed 9)=true:=by kernel_rfl
theorem k12:(Rows.vmTwinsRow.recurses==Tryz.pinned.checked.prog.recurses 9)=true:=by kernel_rfl
theorem k10:(Rows.vmTwinsRow.inPlace==Tryz.pinned.checked.prog.inPlace 9)=true:=by kernel_rfl
theorem k13:(Rows.vmTwinsRow.named==Tryz.pinned.checked.prog.varsNamed 9)=true:=by kernel_rfl
theorem closed:joinedFacts Tryz.pinned.checked.prog 9 Tryz.f9 Rows.vmTwinsSpec Rows.vmTwinsRow=true:=by unfold joinedFacts;rw[k10,k11,k12,k13];kernel_rfl
theorem YR:Rows.vmTwinsRow.holds Tryz.pinned (OpenSpec.ofChange Rows.vmTwinsSpec):=
 OpenClaim.holds_of_wide 9 Tryz.f9 rfl rfl rfl rfl rfl rfl rfl ⟨rfl,rfl,rfl,rfl,rfl⟩ rfl rfl rfl rfl rfl bh func9 closed
  (rS bh) (by unfold Func.isWrapper;first|(rw[aB (by decide+kernel)];kernel_rfl)|(rw[aw (by decide+kernel)];exact⟨rfl,rfl⟩))
  (λos started a0g enc _=>lifted os started a0g enc)
theorem proved:Rows.VmTwinsSaid:=YR
end Go.Proofs.YtblkblclmbhjiaaGreat.vmTwins
