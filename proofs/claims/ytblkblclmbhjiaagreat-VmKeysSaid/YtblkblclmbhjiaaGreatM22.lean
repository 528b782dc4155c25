/- Of the proof that VmKeys holds: keys are names alone. No condition. -/
import Derived.Test.YtblkblclmbhjiaaGreatM21
import Derived.ProofKit
import Derived.ShutString
import Derived.ChangeOld
import Derived.Below
set_option linter.unusedVariables false
set_option linter.unusedSimpArgs false
set_option maxHeartbeats 40000000
set_option maxRecDepth 100000
open Go.Proofs.Tryz
namespace Go.Proofs.YtblkblclmbhjiaaGreat.vmKeys
open Go.ChangeShapes Go.WideShapes Go.ChangeAt Go.RowKit ak Go.Deep
open Go.ChangeMaps (open_string shut_string)
open Ma
theorem own:ownKnob prog.godebug=none:=by kernel_rfl
theorem laidOut:laidOutB prog=true:=by kernel_rfl
theorem Vc {H:Type} {enc:TypeId×Value->H} {w:World} {base:Nat} {spare:Nat->Bool} {held:Bool} {a:Option Addr} {len cap:Nat} (h:Rd enc prog w base spare held 30 [.slice a len cap]):GR w a len:=by
 rcases h.rows underlying30 with h|⟨a',abB,mI,h,h1,h2,h3⟩
 ·simp at h;obtain ⟨rfl,rfl,rfl⟩:=h;exact ⟨afO _,fun i hi=>omm⟩
 ·simp at h;obtain ⟨rfl,rfl,rfl⟩:=h;rw [show prog.cellsOf 48=2 from by kernel_rfl] at h3;refine ⟨omm,fun i hi=>?_⟩;obtain ⟨cs,hl,hc,hr⟩:=h3 i hi;obtain ⟨-,hf⟩:=hr.fields underlying48 krr krr;obtain ⟨v0,e0,r0⟩:=hf 0 _ rfl;obtain ⟨v1,e1,r1⟩:=hf 1 _ rfl;obtain ⟨x0,rfl,-⟩:=r0.int underlying3;obtain ⟨x1,rfl,w1⟩:=r1.int underlying46;have hb:=bounds_u64 w1;obtain ⟨kk,rfl⟩:=afN hb.1;obtain ⟨zU,-,uN,T4⟩:=h3 0 omm;obtain ⟨-,hf0⟩:=T4.fields underlying48 krr krr;obtain ⟨u,eu,-⟩:=hf0 0 _ rfl;have hz:∃u,w.cell? (a'.add 0)=some u:=⟨u,by have:=uN 0 omm;rw [eu] at this;simpa using this⟩;have k0:=at_plain ((hc 0 omm).trans e0) hz;have k1:=at_plain ((hc 1 omm).trans e1) hz;obtain ⟨b,off,sp⟩:=a';obtain ⟨hs,k0⟩:=k0;dsimp only at hs;subst hs;exact ⟨b,off,rfl,x0,kk,omm,k0,k1.2⟩
theorem lifted (os:Os) (started:os.Started) (H:Type) (enc:TypeId×Value->H):
 ReturnsInHanded {} Tryz.checked os 5 .any (Rows.vmKeysSpec.pre6 enc prog Tryz.f5 Rows.vmKeysRow.domain false) (Rows.vmKeysSpec.post enc prog Tryz.f5 false true false false):=by
 refine returnsInHanded_of_change (C:=Tryz.checked) own started krr func5
  (ChangeSpec.witness6 (enc:=enc) (C:=Tryz.checked) false ⟨#[],#[.agg #[ν,ν,ν,ν,ι 0,ν],.agg #[ι 0,ν],ν,.int .u64 0],[]⟩ 8 krr krr krr krr) ?_
 intro W base args ds gs before Se hW abC _;have ir:∀(j:Nat) t v,Tryz.f5.params[j]? =some t->args[j]? =some v->Value.okWide prog W .any base t v:=Se;have Jq:=hW;obtain ⟨p,q,hA0,hV,rfl,tM,gm⟩:=hW;have hA:DataW.TrodAll enc prog W 0 (fun _=>true) true Tryz.f5.params.toList args.toList ds p:=hA0;rw [params5] at hA ir;obtain ⟨v0,vs0,d0,ds0,p0,q0,aa3,rfl,rfl,h0,r0⟩:=trodAll_cons hA;obtain ⟨v1,vs1,d1,ds1,p1,q1,rfl,rfl,rfl,h1,r1⟩:=trodAll_cons r0;obtain ⟨v2,vs2,d2,ds2,p2,q2,rfl,rfl,rfl,h2,r2⟩:=trodAll_cons r1;obtain ⟨v3,vs3,d3,ds3,p3,q3,rfl,rfl,rfl,h3,r3⟩:=trodAll_cons r2;obtain ⟨rfl,rfl,rfl⟩:=trodAll_nil r3;obtain rfl:args=#[v0,v1,v2,v3]:=by cases args;simp_all
 obtain ⟨rfl,rfl⟩:=trodVars_none hV;obtain ⟨zU,e0,-⟩:=okWide_struct underlying27 (ir 0 27 v0 rfl rfl);obtain ⟨cs1,e1,-⟩:=okWide_struct underlying29 (ir 1 29 v1 rfl rfl);obtain ⟨a2,aaZ,z_,rfl⟩:=okWide_slice underlying30 (ir 2 30 v2 rfl rfl);have k0:=h0;have k1:=h1;have k2:=h2;have k3:=h3;have lt0:∀x∈p0,x.block < W.heap.size:=by obtain ⟨m,hm⟩:=k0;exact DataW.trod_lt m _ _ _ hm
 have lt1:∀x∈p1,x.block < W.heap.size:=by obtain ⟨m,hm⟩:=k1;exact DataW.trod_lt m _ _ _ hm
 have lt2:∀x∈p2,x.block < W.heap.size:=by obtain ⟨m,hm⟩:=k2;exact DataW.trod_lt m _ _ _ hm
 have Zl:∀x∈p3,x.block < W.heap.size:=by obtain ⟨m,hm⟩:=k3;exact DataW.trod_lt m _ _ _ hm
 obtain ⟨K,pr,ek,hp⟩:∃K pr,v0=Vf.pV K pr/\Vf.fP W K pr:=by obtain ⟨iT,hf⟩:=h0;subst e0;exact QV rfl ⟨iT,_,hf⟩
 obtain ⟨c,qv,ec,hq⟩:∃c qv,v1=Vf.cV c qv/\Vf.aV W 1 qv c.aI.length (aU c.aI):=by obtain ⟨iT,hf⟩:=h1;subst e1;exact QW rfl ⟨iT,_,hf⟩
 have ho:GR W a2 aaZ:=by obtain ⟨iT,hf⟩:=h2;exact Vc ⟨iT,_,hf⟩
 obtain ⟨x3,rfl,rfl,rfl,w3⟩:=open_int underlying46 (ir 3 46 v3 rfl rfl) h3;have wN:=bounds_u64 w3;obtain ⟨kk,rfl⟩:=afN wN.1;have tX:kk < 18446744073709551616:=omm;have Sf:=ae8 (sc:=z_) hp hq ho tX;rw [<-ek,<-ec] at Sf;clear hA0 Se;refine Sf.mono fun e W' ⟨he,zm⟩=>?_;subst he;exact ⟨_,rfl,_,_,_,[],_,[],Jq,trodAll_mk1 (shut_bool underlying4 _),(trodAll_cons_mk (Below.trod laidOut krr (agi krr) k0 zm lt0) (trodAll_cons_mk (Below.trod laidOut krr (agi krr) k1 zm lt1) (trodAll_cons_mk (Below.trod laidOut krr (agi krr) k2 zm lt2) (trodAll_cons_mk (Below.trod laidOut krr (agi krr) k3 zm Zl) trodAll_mk0)))),rfl,zm.frame _,fun h=>by cases h⟩
theorem δ:(Rows.vmKeysRow.unfollowed==Tryz.pinned.checked.prog.unfollowed 5)=true:=by kernel_rfl
theorem k12:(Rows.vmKeysRow.recurses==Tryz.pinned.checked.prog.recurses 5)=true:=by kernel_rfl
theorem k10:(Rows.vmKeysRow.inPlace==Tryz.pinned.checked.prog.inPlace 5)=true:=by kernel_rfl
theorem k13:(Rows.vmKeysRow.named==Tryz.pinned.checked.prog.varsNamed 5)=true:=by kernel_rfl
theorem closed:joinedFacts Tryz.pinned.checked.prog 5 Tryz.f5 Rows.vmKeysSpec Rows.vmKeysRow=true:=by unfold joinedFacts;rw [k10,δ,k12,k13];kernel_rfl
theorem LS:Rows.vmKeysRow.holds Tryz.pinned (OpenSpec.ofChange Rows.vmKeysSpec):=
 OpenClaim.holds_of_wide 5 Tryz.f5 rfl rfl rfl rfl rfl rfl rfl ⟨rfl,rfl,rfl,rfl,rfl⟩ rfl rfl rfl rfl rfl krr func5 closed
  (agi krr) (by unfold Func.isWrapper;first|(rw [afE (by decide+kernel)];kernel_rfl)|(rw [abH (by decide+kernel)];exact ⟨rfl,rfl⟩))
  (fun os started H enc _=>lifted os started H enc)
theorem proved:Rows.VmKeysSaid:=LS
end Go.Proofs.YtblkblclmbhjiaaGreat.vmKeys
