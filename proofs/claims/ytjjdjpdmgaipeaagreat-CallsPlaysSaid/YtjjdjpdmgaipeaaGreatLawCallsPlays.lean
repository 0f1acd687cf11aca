/- PROVED HERE: aediculelaw22.CallsPlays returns true for every input, and its arguments read behind the call as they read before. Conditions: none beyond the given statement's own. -/
import Derived.Test.YtjjdjpdmgaipeaaGreatRows
import Derived.Test.YtjjdjpdmgaipeaaGreatCpKeCp
import Derived.WalkKit
import Derived.ProofKit
import Derived.OpenShut
import Derived.ShutString
import Derived.ChangeOld
import Derived.Below
import Derived.SizedLaws
import Derived.Lib.SmallJoins
import Derived.Test.YtjjdjpdmgaipeaaGreatCpZa
set_option linter.unusedVariables false
set_option linter.unusedSimpArgs false
set_option maxRecDepth 100000
set_option maxHeartbeats 16000000
open Go.Proofs.Tryz
namespace Go.Proofs.YtjjdjpdmgaipeaaGreat.callsPlaysLaw
open Go.ChangeShapes Go.WideShapes Go.ChangeAt Go.RowKit
open Go.ChangeMaps (open_string shut_string)
theorem own:ownKnob Tryz.prog.godebug=none:=by kernel_rfl
theorem laidOut:laidOutB Tryz.prog=true:=by kernel_rfl
theorem lifted(os:Os)(started:os.Started)(H:Type)(enc:TypeId×Value→H):
  ReturnsInHanded {} Tryz.checked os 4 .any (Rows.callsPlaysSpec.pre6 enc Tryz.prog Tryz.f4 Rows.callsPlaysRow.domain false) (Rows.callsPlaysSpec.post enc Tryz.prog Tryz.f4 false true false false):=by
 refine returnsInHanded_of_change_sized (C:=Tryz.checked) own started (by kernel_rfl) func4
  (ChangeSpec.witness6 (enc:=enc) (C:=Tryz.checked) false ⟨#[], #[.agg #[.int .u32 0,.slice none 0 0,.int .u32 0,.slice none 0 0,.slice none 0 0,.bool false,.slice none 0 0,.int .u32 0,.slice none 0 0,.int .u16 0,.slice none 0 0,.int .u16 0,.string ByteArray.empty,.slice none 0 0],.slice none 0 0],[]⟩ 8 (by kernel_rfl) (by kernel_rfl) (by kernel_rfl) (by kernel_rfl)) ?_
 intro W base args ds gs before hval0 hW hcnd hsz0 _;have hsz:(DataW.weightsEach Tryz.prog (Tryz.f4.params.toList++Rows.callsPlaysSpec.plain.varTypes Tryz.prog) (ds++gs)).all (·≤reachBytes)=true:=hsz0;clear hsz0;have hval:∀(j:Nat) t v,Tryz.f4.params[j]? =some t→args[j]? =some v→Value.okWide Tryz.prog W .any base t v:=hval0;have hW':=hW;obtain⟨p,q,hA0,hV,rfl,hfz,hnd⟩:=hW;have hA:DataW.TrodAll enc Tryz.prog W 0 (fun _=>true) true Tryz.f4.params.toList args.toList ds p:=hA0;rw[Tryz.params4] at hA hval hsz;obtain⟨v0,vs0,d0,ds0,p0,q0,hargs,rfl,rfl,h0,r0⟩:=trodAll_cons hA;obtain⟨v1,vs1,d1,ds1,p1,q1,rfl,rfl,rfl,h1,r1⟩:=trodAll_cons r0;obtain⟨rfl,rfl,rfl⟩:=trodAll_nil r1;obtain rfl:args= #[v0,v1]:=by cases args;simp_all
 obtain⟨rfl,rfl⟩:=trodVars_none hV;have wt0:Rd.Wt Tryz.prog 37 d0:=Rd.wt_of hsz (j:=0) rfl rfl;have k0:=h0;have lt0:∀x∈p0,x.block<W.heap.size:=by obtain⟨m,hm⟩:=k0;exact DataW.trod_lt m _ _ _ hm
 obtain⟨cs0,rfl,hz0⟩:=okWide_struct Tryz.underlying37 (hval 0 37 v0 rfl rfl);obtain⟨x0,hx0,ok0⟩:∃x:In.WdI,cs0.toList=x.cells.toList∧x.pre W:=by
  obtain⟨fuel,hf⟩:=h0;have hl:cs0.toList.length=14:=by rw[Array.length_toList,hz0];kernel_rfl
  exact In.world_read cs0.toList fuel _ hf wt0 hl
 obtain rfl:cs0=x0.cells:=Array.toList_inj.1 hx0;have wt1:Rd.Wt Tryz.prog 38 d1:=Rd.wt_of hsz (j:=1) rfl rfl;have k1:=h1;have lt1:∀x∈p1,x.block<W.heap.size:=by obtain⟨m,hm⟩:=k1;exact DataW.trod_lt m _ _ _ hm
 obtain⟨sa1,sn1,sc1,rfl⟩:=okWide_slice Tryz.underlying38 (hval 1 38 v1 rfl rfl);obtain⟨a1,cap1,x1,hv1,sl1,sz1⟩:∃a cap xs,Value.slice sa1 sn1 sc1=Value.slice a (List.length xs) cap∧Rd.Sl W 7 In.clQ a cap xs∧xs.length*Tryz.prog.bytesOf 51<140737488355328:=by
  obtain⟨fuel,hf⟩:=h1;exact Rd.rd_slice Tryz.underlying38 7 (by kernel_rfl) (by omega) In.clQ (fun cs n z g=>In.call_read cs n z g) hf wt1
 rw[hv1] at hW' k1⊢;clear hA0 hval0;refine(L22.plays W x0 ok0 a1 cap1 x1 (In.sl_cls sl1)).mono fun e W' ⟨he,bel⟩=> ?_
 subst he;exact⟨_,rfl,_,_,_,[],_,[],hW',trodAll_mk1 (shut_bool Tryz.underlying4 _),(trodAll_cons_mk (Below.trod laidOut (by kernel_rfl) (of_decide_eq_true (by kernel_rfl)) k0 bel lt0) (trodAll_cons_mk (Below.trod laidOut (by kernel_rfl) (of_decide_eq_true (by kernel_rfl)) k1 bel lt1) trodAll_mk0)),rfl,bel.frame _,fun h=>by cases h⟩
theorem and2{a b:Bool}(ha:a=true)(hb:b=true):(a&&b)=true:=by rw[ha,hb];rfl
theorem closed:joinedFacts Tryz.pinned.checked.prog 4 Tryz.f4 Rows.callsPlaysSpec Rows.callsPlaysRow=true:=by
 unfold joinedFacts
 repeat' (with_reducible refine and2 ?_ ?_)
 all_goals as_aux_lemma=>kernel_rfl
theorem over:Rows.callsPlaysRow.holds Tryz.pinned (OpenSpec.ofChange Rows.callsPlaysSpec):=
 OpenClaim.holds_of_wide 4 Tryz.f4 rfl rfl rfl rfl rfl rfl rfl ⟨rfl,rfl,rfl,rfl,rfl⟩ rfl rfl rfl rfl rfl (by kernel_rfl) func4 closed
  (of_decide_eq_true (by kernel_rfl)) (by unfold Func.isWrapper;first|(rw[if_pos (by decide+kernel)];kernel_rfl)|(rw[if_neg (by decide+kernel)];exact⟨rfl,rfl⟩))
  (fun os started H enc _=>lifted os started H enc)
theorem proved:Rows.CallsPlaysSaid:=over
#print axioms proved
end Go.Proofs.YtjjdjpdmgaipeaaGreat.callsPlaysLaw
