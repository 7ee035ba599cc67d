/- TopNever: its row, out of its walk: for every input the call returns true and leaves the arguments as they were; no condition. -/
import Derived.Test.YthffblhdjjbkaaaGreatM47
import Derived.HandedShaped
set_option maxHeartbeats 100000000
set_option maxRecDepth 1000000
open Go.Proofs.Tryz
namespace Go.Proofs.YthffblhdjjbkaaaGreat
open Go.RowKit Go.Tru Go.ChangeShapes Go.WideShapes Go.ChangeAt
theorem uk (os:Os) (started:os.Started) (H:Type) (enc:TypeId×Value→H):ReturnsInHanded {} Tryz.checked os 3 .any (Rows.topNeverSpec.pre6 enc prog Tryz.f3 Rows.topNeverRow.domain false) (Rows.topNeverSpec.post enc prog Tryz.f3 false true false false):=by
 refine returnsInHanded_of_change_shaped (C:=Tryz.checked) Tryz.own started (by kernel_rfl) func3 (ChangeSpec.witness6 (enc:=enc) (C:=Tryz.checked) false ⟨#[],#[.int .i64 0,.int .i64 0,.slice none 0 0,.int .i64 0],[]⟩ 8 (by kernel_rfl) (by kernel_rfl) (by kernel_rfl) (by kernel_rfl)) ?_;intro W base args ds gs before abH hW anx _ M6 _;obtain⟨t,hT,hz⟩:=yi M6;have nf: ∀ (j:Nat) t v,Tryz.f3.params[j]? =some t→args[j]? =some v→Value.okWide prog W .any base t v:=abH;have Zq:=hW;have dD: ∀x∈before,x.block<W.heap.size:=fun x hx=>by simpa using Zq.lt x hx
 obtain⟨p,q,hA0,hV,rfl,hfz,hnd⟩:=hW;have hA:DataW.TrodAll enc prog W 0 (fun _=>true) true Tryz.f3.params.toList args.toList ds p:=hA0;rw[Tryz.params3] at hA nf;obtain⟨v0,vs0,d0,ds0,p0,q0,ai6,rfl,rfl,h0,r0⟩:=trodAll_cons hA;obtain⟨v1,vs1,d1,ds1,p1,q1,rfl,rfl,rfl,h1,r1⟩:=trodAll_cons r0;obtain⟨v2,vs2,d2,ds2,p2,q2,rfl,rfl,rfl,h2,r2⟩:=trodAll_cons r1;obtain⟨v3,vs3,d3,ds3,p3,q3,rfl,rfl,rfl,h3,r3⟩:=trodAll_cons r2;obtain⟨rfl,rfl,rfl⟩:=trodAll_nil r3;obtain rfl:args= #[v0,v1,v2,v3]:=by cases args;simp_all
 obtain⟨rfl,rfl⟩:=trodVars_none hV;obtain⟨a0,rfl,rfl,rfl,w0⟩:=open_int underlying3 (nf 0 3 v0 rfl rfl) h0;obtain⟨a1,rfl,rfl,rfl,w1⟩:=open_int underlying3 (nf 1 3 v1 rfl rfl) h1;obtain⟨n2,c2,o2,x2,rfl,w2⟩:=uU (nf 2 22 v2 rfl rfl) h2 (fun x hx=>dD x (by simp[hx]));obtain⟨a3,rfl,rfl,rfl,w3⟩:=open_int underlying3 (nf 3 3 v3 rfl rfl) h3;refine(MT hT hz a0 a1 o2 n2 c2 x2 a3 w2 (yy w1)).mono fun e W' ⟨he,hb⟩=> ?_;subst he;exact⟨_,rfl,NR Zq rfl rfl (by kernel_rfl) ⟨rfl,rfl,rfl⟩ hb.all⟩
theorem topNever_holds:Rows.TopNeverSaid:=OpenClaim.holds_of_wide 3 Tryz.f3 rfl rfl rfl rfl rfl rfl rfl ⟨rfl,rfl,rfl,rfl,rfl⟩ rfl rfl rfl rfl rfl (by kernel_rfl) func3 (by kernel_rfl) (of_decide_eq_true (by kernel_rfl)) (by unfold Func.isWrapper;first|(rw[if_pos (by decide+kernel)];kernel_rfl)|(rw[if_neg (by decide+kernel)];exact⟨rfl,rfl⟩)) (fun os started H enc _=>uk os started H enc)
end Go.Proofs.YthffblhdjjbkaaaGreat
