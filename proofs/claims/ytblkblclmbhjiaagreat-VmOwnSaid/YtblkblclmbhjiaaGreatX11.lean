/- Of the proof that VmOwn holds: what is told is the caller's own. No condition. -/
import Derived.Test.YtblkblclmbhjiaaGreatX10
import Derived.ProofKit
import Derived.ShutString
import Derived.ChangeOld
import Derived.Below
import Derived.SizedLaws
set_option linter.all false
set_option maxHeartbeats 40000000
set_option maxRecDepth 100000
open Go.Proofs.Tryz
open Option renaming some->H,none->K7
open Go renaming Value->UL,World->UK
open Go.Value renaming slice->to
open Go.Obj renaming cells->QP
open Go.Ending renaming returned->C8
open Go.World renaming cell?->UJ
namespace Go.Proofs.YtblkblclmbhjiaaGreat.vmOwn
open Go.ChangeShapes Go.WideShapes Go.ChangeAt Go.RowKit aj Go.Deep
open Go.ChangeMaps (open_string shut_string)
open Ma
theorem own:ownKnob prog.godebug=K7:=by kernel_rfl
theorem laidOut:laidOutB prog=true:=by kernel_rfl
theorem agq{a0f:Type}{enc:TypeId×UL->a0f}{w:UK}{base:Nat}{spare:Nat->Bool}{held:Bool}{a:Option Addr}{len cap:Nat}(h:Rd enc prog w base spare held 30 [to a len cap]):um w a len:=by
 rcases h.rows underlying30 with h|⟨a',afA,oh,h,h1,h2,h3⟩
 ·simp at h;obtain⟨rfl,rfl,rfl⟩:=h;exact⟨cK _,λi hi=>O⟩
 ·simp at h;obtain⟨rfl,rfl,rfl⟩:=h;rw[show prog.cellsOf 48=2 from by kernel_rfl]at h3;refine⟨O,λi hi=>?_⟩;obtain⟨cs,hl,hc,hr⟩:=h3 i hi;obtain⟨-,hf⟩:=hr.fields underlying48 bh bh;obtain⟨v0,e0,r0⟩:=hf 0 _ rfl;obtain⟨v1,e1,r1⟩:=hf 1 _ rfl;obtain⟨x0,rfl,-⟩:=r0.int underlying3;obtain⟨x1,rfl,w1⟩:=r1.int underlying46;have X:=bounds_u64 w1;obtain⟨kk,rfl⟩:=dz X.1;obtain⟨CC,-,xH,ZA⟩:=h3 0 O;obtain⟨-,hf0⟩:=ZA.fields underlying48 bh bh;obtain⟨u,eu,-⟩:=hf0 0 _ rfl;have hz:∃u,UJ w (a'.add 0)=H u:=⟨u,by have:=xH 0 O;rw[eu]at this;simpa using this⟩;have k0:=at_plain ((hc 0 O).trans e0) hz;have k1:=at_plain ((hc 1 O).trans e1) hz;obtain⟨b,off,sp⟩:=a';obtain⟨hs,k0⟩:=k0;dsimp only at hs;subst hs;exact⟨b,off,rfl,x0,kk,O,k0,k1.2⟩
theorem zA{a0f:Type}{enc:TypeId×UL->a0f}{w:UK}{base m:Nat}{spare:Nat->Bool}{held:Bool}{cs:List UL}{d:DataW a0f}{pl:List MemPlace}{fs:Array Field}{j:Nat}{f:Field}{e:TypeId}{a:Option Addr}{n cap:Nat}{v:UL}
 (fL:prog.underlying 27=H (.struct fs)) (Vn:fs[j]? =H f) (hfe:prog.underlying f.type=H (.slice e)) (hc:prog.cellsOf f.type=1) (gU:(cs.drop f.offset).take 1=[v]) (hv:v=to a n cap)
 (h:DataW.trod enc prog w base spare held m 27 cs=H (d,pl)) (hw:∀k,k∈d.weights prog 27->k<=reachBytes):n*prog.bytesOf e<=reachBytes:=by
 obtain⟨xs,m',-,hx,-,hl,hf⟩:=DataW.trod_struct fL h;have h1:=hf j f Vn;rw[hc,gU,hv]at h1;have be:j<xs.length:=by rw[hl];exact(Array.getElem?_eq_some_iff.1 Vn).1
 rw[fq be]at h1;simp only[Prod.mk.injEq]at hx;obtain⟨hd,-⟩:=hx;rcases DataW.trod_slice hfe h1 with⟨e1,-⟩|⟨a',len,oh,agM,rest,m'',-,e1,e2,-,-,-,hle,-⟩
 ·simp at e1;rw[e1.2.1,Nat.zero_mul];exact cK _
 ·simp at e1;have hm:(agM.length+rest.length)*prog.bytesOf e∈d.weights prog 27:=by
   rw[hd];simp only[DataW.weights,fL];refine DataW.weights_mem_each (j:=j) (t:=f.type) (d:=(xs[j]'be).1) ?_ ?_ _ ?_
   ·rw[List.getElem?_map,Array.getElem?_toList,Vn];rfl
   ·rw[List.getElem?_map,fq be];rfl
   ·rw[e2];simp[DataW.weights,hfe]
  refine cU (Nat.mul_le_mul_right _ ?_) (hw _ hm);omega
theorem abG:prog.bytesOf 4=1:=by kernel_rfl
theorem afD:prog.bytesOf 122=24:=by kernel_rfl
theorem afE:prog.bytesOf 3=8:=by kernel_rfl
theorem afF:prog.bytesOf 40=40:=by kernel_rfl
theorem afG{a0f:Type}{enc:TypeId×UL->a0f}{w:UK}{base m:Nat}{spare:Nat->Bool}{held:Bool}{cs:Array UL}{d:DataW a0f}{pl:List MemPlace}{K:Vf.Kp}{p:aj.Vm.aQ}(ek:Value.agg cs=Vf.pV K p)(hp:Vf.fW w K p)
 (h:DataW.trod enc prog w base spare held m 27 cs.toList=H (d,pl)) (hw:∀k,k∈d.weights prog 27->k<=reachBytes):Vf.nu p:=by
 unfold Vf.pV at ek;simp only[Value.agg.injEq]at ek;subst ek;obtain⟨a0,c0,e0,-⟩:=hp.g.val;obtain⟨a1,c1,e1,-⟩:=hp.v.val;obtain⟨a2,c2,e2,-⟩:=hp.t.val;obtain⟨a3,c3,e3,-⟩:=hp.o.val;obtain⟨a5,c5,e5,-⟩:=hp.cd.val;have s0:=zA (j:=0) underlying27 rfl underlying22 bh rfl e0 h hw;have s1:=zA (j:=1) underlying27 rfl underlying23 bh rfl e1 h hw;have s2:=zA (j:=2) underlying27 rfl underlying24 bh rfl e2 h hw;have s3:=zA (j:=3) underlying27 rfl underlying24 bh rfl e3 h hw;have s5:=zA (j:=5) underlying27 rfl underlying25 bh rfl e5 h hw;rw[abG]at s0;rw[afD]at s1;rw[afE]at s2 s3;rw[afF]at s5;unfold reachBytes at s0 s1 s2 s3 s5;exact⟨O,O,O,O,O⟩
theorem lifted(os:Os)(started:os.Started)(a0f:Type)(enc:TypeId×UL->a0f):
 ReturnsInHanded {} Tryz.checked os 3 .any (Rows.vmOwnSpec.pre6 enc prog Tryz.f3 Rows.vmOwnRow.domain false) (Rows.vmOwnSpec.post enc prog Tryz.f3 false true false false):=by
 refine returnsInHanded_of_change_sized (C:=Tryz.checked) own started bh func3
  (ChangeSpec.witness6 (enc:=enc) (C:=Tryz.checked) false ⟨#[],#[.agg #[Pl,Pl,Pl,Pl,Y 0,Pl],.agg #[Y 0,Pl],Pl],[]⟩ 8 bh bh bh bh) ?_
 intro W base args ds gs before Xv hW afB OY _;have kw:(DataW.weightsEach prog (Tryz.f3.params.toList++Rows.vmOwnSpec.plain.varTypes prog) (ds++gs)).all (· <=reachBytes)=true:=OY;clear OY;have iE:∀(j:Nat) t v,Tryz.f3.params[j]? =H t->args[j]? =H v->Value.okWide prog W .any base t v:=Xv;have Ei:=hW;obtain⟨p,q,hA0,hV,rfl,vT,gP⟩:=hW;have hA:DataW.TrodAll enc prog W 0 (λ_=>true) true Tryz.f3.params.toList args.toList ds p:=hA0;rw[params3]at hA iE kw;obtain⟨v0,vs0,d0,ds0,p0,q0,aeY,rfl,rfl,h0,r0⟩:=trodAll_cons hA;obtain⟨v1,vs1,d1,ds1,p1,q1,rfl,rfl,rfl,h1,r1⟩:=trodAll_cons r0;obtain⟨v2,vs2,d2,ds2,p2,q2,rfl,rfl,rfl,h2,r2⟩:=trodAll_cons r1;obtain⟨rfl,rfl,rfl⟩:=trodAll_nil r2;obtain rfl:args=#[v0,v1,v2]:=by cases args;simp_all
 obtain⟨rfl,rfl⟩:=trodVars_none hV;obtain⟨CC,e0,-⟩:=okWide_struct underlying27 (iE 0 27 v0 rfl rfl);obtain⟨cs1,e1,-⟩:=okWide_struct underlying29 (iE 1 29 v1 rfl rfl);obtain⟨a2,aeQ,CH,rfl⟩:=okWide_slice underlying30 (iE 2 30 v2 rfl rfl);have k0:=h0;have k1:=h1;have k2:=h2;have lt0:∀x∈p0,x.block<W.heap.size:=by obtain⟨m,hm⟩:=k0;exact DataW.trod_lt m _ _ _ hm
 have lt1:∀x∈p1,x.block<W.heap.size:=by obtain⟨m,hm⟩:=k1;exact DataW.trod_lt m _ _ _ hm
 have lt2:∀x∈p2,x.block<W.heap.size:=by obtain⟨m,hm⟩:=k2;exact DataW.trod_lt m _ _ _ hm
 obtain⟨K,pr,ek,hp⟩:∃K pr,v0=Vf.pV K pr/\Vf.fW W K pr:=by obtain⟨gS,hf⟩:=h0;subst e0;exact a0k rfl ⟨gS,_,hf⟩
 have agX:Vf.nu pr:=by obtain⟨gS,hf⟩:=k0;subst e0;refine afG ek hp hf λk hk=>?_;exact rS (List.all_eq_true.1 kw k (DataW.weights_mem_each (j:=0) (t:=27) rfl rfl k hk))
 obtain⟨c,qv,ec,hq⟩:∃c qv,v1=Vf.cV c qv/\Vf.aZ W 1 qv c.aK.length (aX c.aK):=by obtain⟨gS,hf⟩:=h1;subst e1;exact a0l rfl ⟨gS,_,hf⟩
 have ho:um W a2 aeQ:=by obtain⟨gS,hf⟩:=h2;exact agq ⟨gS,_,hf⟩
 have Xw:=agK (sc:=CH) hp hq ho agX;rw[<-ek,<-ec]at Xw;clear hA0 Xv;refine Xw.mono λe W' ⟨he,rO⟩=>?_;subst he;exact⟨_,rfl,_,_,_,[],_,[],Ei,trodAll_mk1 (shut_bool underlying4 _),(trodAll_cons_mk (Below.trod laidOut bh (rS bh) k0 rO lt0) (trodAll_cons_mk (Below.trod laidOut bh (rS bh) k1 rO lt1) (trodAll_cons_mk (Below.trod laidOut bh (rS bh) k2 rO lt2) trodAll_mk0))),rfl,rO.frame _,λh=>by cases h⟩
theorem k11:(Rows.vmOwnRow.unfollowed==Tryz.pinned.checked.prog.unfollowed 3)=true:=by kernel_rfl
theorem k12:(Rows.vmOwnRow.recurses==Tryz.pinned.checked.prog.recurses 3)=true:=by kernel_rfl
theorem k10:(Rows.vmOwnRow.inPlace==Tryz.pinned.checked.prog.inPlace 3)=true:=by kernel_rfl
theorem k13:(Rows.vmOwnRow.named==Tryz.pinned.checked.prog.varsNamed 3)=true:=by kernel_rfl
theorem closed:joinedFacts Tryz.pinned.checked.prog 3 Tryz.f3 Rows.vmOwnSpec Rows.vmOwnRow=true:=by unfold joinedFacts;rw[k10,k11,k12,k13];kernel_rfl
theorem YR:Rows.vmOwnRow.holds Tryz.pinned (OpenSpec.ofChange Rows.vmOwnSpec):=
 OpenClaim.holds_of_wide 3 Tryz.f3 rfl rfl rfl rfl rfl rfl rfl ⟨rfl,rfl,rfl,rfl,rfl⟩ rfl rfl rfl rfl rfl bh func3 closed
  (rS bh) (by unfold Func.isWrapper;first|(rw[bk (by decide+kernel)];kernel_rfl)|(rw[aw (by decide+kernel)];exact⟨rfl,rfl⟩))
  (λos started a0f enc _=>lifted os started a0f enc)
theorem proved:Rows.VmOwnSaid:=YR
end Go.Proofs.YtblkblclmbhjiaaGreat.vmOwn
