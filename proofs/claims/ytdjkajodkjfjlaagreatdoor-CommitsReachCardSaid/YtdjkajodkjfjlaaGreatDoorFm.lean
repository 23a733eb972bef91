/- The statement CommitsReachCardSaid: for every input the law CommitsReach returns true and leaves its arguments as they were; the package-level tables hold what the program's text lays. No further condition. -/
import Derived.Test.YtdjkajodkjfjlaaGreatDoorRows
import Derived.Test.YtdjkajodkjfjlaaGreatDoorCards
import Derived.Test.YtdjkajodkjfjlaaGreatDoorTie
import Derived.Test.YtdjkajodkjfjlaaGreatDoorZJ7
import Derived.WalkKit
import Derived.ProofKit
import Derived.OpenShut
import Derived.ShutString
import Derived.ChangeOld
import Derived.Below
import Derived.Deep.DeepHandedRow
import Derived.Lib.LaidTab
namespace Go.Proofs.YtdjkajodkjfjlaaGreatDoor.commitsReach
open Go.ChangeShapes Go.WideShapes Go.ChangeAt Go.RowKit
open Go.ChangeMaps (open_string shut_string)
set_option linter.unusedVariables false
set_option linter.unusedSimpArgs false
set_option maxRecDepth 100000
theorem own:ownKnob Tryz.prog.godebug=none:=by kernel_rfl
theorem laidOut:laidOutB Tryz.prog=true:=by kernel_rfl
theorem contract(H:Type)(enc:TypeId×Value→H)(W:World)(base:Nat)(args:Array Value)(ds gs:List (DataW H))(before:List MemPlace)
 (hval0:∀(j:Nat) t v,Tryz.f3.params[j]?=some t→args[j]?=some v→Value.okWide Tryz.prog W .any base t v)
 (hW:DataW.Whole enc Tryz.prog Tryz.f3.params.toList Rows.commitsReachSpec.vars false W args.toList ds gs before) (hL:laidMetH Tryz.prog Rows.commitsReachRow.laid W):
 Calls Tryz.prog 3 args W fun e W'=>∃v,e=.returned v∧Rows.commitsReachSpec.post enc Tryz.prog Tryz.f3 false true false false W args v W':=by
 have hval:∀(j:Nat) t v,Tryz.f3.params[j]?=some t→args[j]?=some v→Value.okWide Tryz.prog W .any base t v:=hval0;have hW':=hW;obtain⟨p,q,hA0,hV,rfl,hfz,hnd⟩:=hW;have hA:DataW.TrodAll enc Tryz.prog W 0 (fun _=>true) true Tryz.f3.params.toList args.toList ds p:=hA0;rw[Tryz.params3]at hA hval;obtain⟨v0,vs0,d0,ds0,p0,q0,hargs,rfl,rfl,h0,r0⟩:=trodAll_cons hA;obtain⟨v1,vs1,d1,ds1,p1,q1,rfl,rfl,rfl,h1,r1⟩:=trodAll_cons r0;obtain⟨v2,vs2,d2,ds2,p2,q2,rfl,rfl,rfl,h2,r2⟩:=trodAll_cons r1;obtain⟨rfl,rfl,rfl⟩:=trodAll_nil r2;obtain rfl:args= #[v0,v1,v2]:=by cases args;simp_all
 obtain⟨rfl,rfl⟩:=trodVars_none hV;have k0:=h0;have lt0:∀x∈p0,x.block<W.heap.size:=by obtain⟨m,hm⟩:=k0;exact DataW.trod_lt m _ _ _ hm
 obtain⟨a1,rfl,rfl,rfl,w1⟩:=open_int Tryz.underlying3 (hval 1 3 v1 rfl rfl) h1;have k2:=h2;have lt2:∀x∈p2,x.block<W.heap.size:=by obtain⟨m,hm⟩:=k2;exact DataW.trod_lt m _ _ _ hm
 clear hA0 hval0;refine(commitsReach_w v0 d0 p0 h0 (hval 0 29 v0 rfl rfl) a1 w1 v2 d2 p2 h2 (hval 2 30 v2 rfl rfl) hL).mono fun e W' ⟨he,bel⟩=>?_
 subst he;exact⟨_,rfl,_,_,_,[],_,[],hW',trodAll_mk1 (shut_bool Tryz.underlying4 _),(trodAll_cons_mk (Below.trod laidOut (by kernel_rfl) (of_decide_eq_true (by kernel_rfl)) k0 bel lt0) (trodAll_cons_mk (shut_int Tryz.underlying3 w1) (trodAll_cons_mk (Below.trod laidOut (by kernel_rfl) (of_decide_eq_true (by kernel_rfl)) k2 bel lt2) trodAll_mk0))),rfl,bel.frame _,fun h=>by cases h⟩
noncomputable def laidWorld(os:Os):World:=World.doorLaid Tryz.prog 3000 os
theorem laid_met(os:Os):laidMetH Tryz.prog Rows.commitsReachRow.laid ((laidWorld os).forCall (fun _ _=>0) ⟨#[],#[Value.agg ⟨[Value.int .i64 0,Value.int .i64 0]++List.replicate 32 (Value.int .u8 0)++[Value.slice none 0 0,Value.slice none 0 0]⟩,.int .i64 0,.slice none 0 0],[]⟩).memory:=
 door_met os _
theorem reads(os:Os){H:Type}(enc:TypeId×Value→H):∃places,DataW.whole enc Tryz.prog ((laidWorld os).forCall (fun _ _=>0) ⟨#[],#[Value.agg ⟨[Value.int .i64 0,Value.int .i64 0]++List.replicate 32 (Value.int .u8 0)++[Value.slice none 0 0,Value.slice none 0 0]⟩,.int .i64 0,.slice none 0 0],[]⟩).memory Tryz.f3.params.toList Rows.commitsReachSpec.vars false (#[Value.agg ⟨[Value.int .i64 0,Value.int .i64 0]++List.replicate 32 (Value.int .u8 0)++[Value.slice none 0 0,Value.slice none 0 0]⟩,.int .i64 0,.slice none 0 0]:Array Value).toList 8=some ([.agg [.lit (.int .i64 0),.lit (.int .i64 0),.agg (List.replicate 32 (.lit (.int .u8 0))),.nil,.agg [.nil]],.lit (.int .i64 0),.nil],[],places):=
 ⟨[],by kernel_rfl⟩
theorem lifted(os:Os)(started:os.Started)(H:Type)(enc:TypeId×Value→H)(F:Stop.Interp):
 ReturnsInHanded {} Tryz.checked os 3 .any ((OpenSpec.ofChange Rows.commitsReachSpec).preRow enc Tryz.prog Tryz.f3 Rows.commitsReachRow.domain false Rows.commitsReachRow.laid) (((OpenSpec.ofChange Rows.commitsReachSpec).at F).post enc Tryz.prog Tryz.f3 false true false false):=by
 obtain⟨places,hx⟩:=reads os enc;refine returnsInHanded_of_row (C:=Tryz.checked) (s:=(OpenSpec.ofChange Rows.commitsReachSpec)) own started (by kernel_rfl) Tryz.func3
  (witness_row_at (enc:=enc) (C:=Tryz.checked) false (laidWorld os) #[Value.agg ⟨[Value.int .i64 0,Value.int .i64 0]++List.replicate 32 (Value.int .u8 0)++[Value.slice none 0 0,Value.slice none 0 0]⟩,.int .i64 0,.slice none 0 0] rfl (by kernel_rfl) (by kernel_rfl) (by kernel_rfl)
   (OpenSpec.preRow_of_cond 8 hx (by kernel_rfl) (fun k hk=>by cases hk) (by kernel_rfl) (laid_met os))) ?_
 intro W base args ds gs before hval hW _ hcond _ hL _ _;exact contract H enc W base args ds gs before hval hW hL
theorem and_tt{a b:Bool}(h:a=true)(g:b=true):(a&&b)=true:=by rw[h,g];rfl
set_option maxHeartbeats 64000000 in
theorem facts:joinedFacts Tryz.pinned.checked.prog 3 Tryz.f3 (OpenSpec.ofChange Rows.commitsReachSpec).bare Rows.commitsReachRow=true:=by
 unfold joinedFacts
 repeat' (with_reducible refine and_tt ?_ ?_)
 all_goals as_aux_lemma=>kernel_rfl
theorem said:Rows.CommitsReachSaid:=
 OpenClaim.holds_of_cond 3 Tryz.f3 rfl rfl rfl rfl rfl rfl rfl ⟨rfl,rfl,rfl,rfl,rfl⟩ rfl rfl rfl rfl rfl (by kernel_rfl) Tryz.func3 facts
  (of_decide_eq_true (by kernel_rfl)) (by unfold Func.isWrapper;first|(rw[if_pos (by decide+kernel)];kernel_rfl)|(rw[if_neg (by decide+kernel)];exact⟨rfl,rfl⟩))
  (fun os started H enc _ F=>by rw[OpenClaim.pre_eq_preRow];exact lifted os started H enc F)
theorem plain(f:FuncId)(fn:Func)(hf:Tryz.pinned.checked.prog.funcNamed "chartroom/chartroomlaw23.CommitsReach" =some f)(hfn:Tryz.pinned.checked.prog.funcs[f]?=some fn):
 true=Tryz.pinned.checked.prog.looks []∧∀(j:Nat) t,fn.params[j]?=some t→Tryz.pinned.checked.prog.wantsStandIn t=false:=by
 obtain rfl:f=3:=Option.some.inj ((show Tryz.prog.funcNamed "chartroom/chartroomlaw23.CommitsReach" =some 3 by kernel_rfl).symm.trans hf)|>.symm;obtain rfl:fn=Tryz.f3:=(Option.some.inj (Tryz.func3.symm.trans hfn)).symm;refine⟨by kernel_rfl,fun j t ht=>?_⟩;have h:∀t∈Tryz.f3.params.toList,Tryz.prog.wantsStandIn t=false:=by
  rw[Tryz.params3]
  decide+kernel
 exact h t (by simpa using Array.mem_of_getElem? ht)
theorem proved:Rows.CommitsReachCardSaid:=
 Claim7.holds_tied_plain_at .later [] _ _ _ _ said (fun _ h=>by cases h) (by kernel_rfl) (fun _ h=>by cases h) commitsReach_row_tie rfl ⟨rfl,rfl⟩ (by kernel_rfl) rfl plain (by kernel_rfl)
end Go.Proofs.YtdjkajodkjfjlaaGreatDoor.commitsReach
