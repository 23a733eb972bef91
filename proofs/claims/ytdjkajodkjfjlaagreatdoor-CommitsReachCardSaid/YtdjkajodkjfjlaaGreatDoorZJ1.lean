/- Contracts of functions that the law reaches, part 1 of 7; no condition. -/
import Derived.Test.YtdjkajodkjfjlaaGreatDoorRows
import Derived.WalkKit
import Derived.ProofKit
import Derived.BigQuiet
namespace Go.Proofs.YtdjkajodkjfjlaaGreatDoor
set_option maxHeartbeats 64000000
set_option maxRecDepth 100000
set_option linter.unusedVariables false
set_option linter.unusedSimpArgs false
set_option linter.unusedSectionVars false
open Go.RowKit
open Go.Proofs.Tryz
open Go.Ending renaming returned->ja
theorem O{p:Prop}(h:p):Go.RowKit.Hid p:=h
theorem aA{p q:Prop}(h:Go.RowKit.Hid p)(k:p->q:=by intro _;omega):q:=k h
instance:CoeOut Go.World Nat:=⟨fun w=>w.heap.size⟩
theorem bL{p q:Prop}(h:p)(k:p->q:=by intro _;omega):q:=k h
theorem eF{p r q:Prop}(h:Go.RowKit.Hid p)(g:Go.RowKit.Hid r)(k:p->r->q:=by intro _ _;omega):q:=k h g
abbrev aT:Array Value:=#[Value.int IntKind.u8 0,Value.int IntKind.u8 0,Value.int IntKind.u8 0,Value.int IntKind.u8 0,Value.int IntKind.u8 0,Value.int IntKind.u8 0,Value.int IntKind.u8 0,Value.int IntKind.u8 0,Value.int IntKind.u8 0,Value.int IntKind.u8 0,Value.int IntKind.u8 0,Value.int IntKind.u8 0,Value.int IntKind.u8 0,Value.int IntKind.u8 0,Value.int IntKind.u8 0,Value.int IntKind.u8 0,Value.int IntKind.u8 0,Value.int IntKind.u8 0,Value.int IntKind.u8 0,Value.int IntKind.u8 0,Value.int IntKind.u8 0,Value.int IntKind.u8 0,Value.int IntKind.u8 0,Value.int IntKind.u8 0,Value.int IntKind.u8 0,Value.int IntKind.u8 0,Value.int IntKind.u8 0,Value.int IntKind.u8 0,Value.int IntKind.u8 0,Value.int IntKind.u8 0,Value.int IntKind.u8 0,Value.int IntKind.u8 0]
theorem ac{w x y:World}(h:Go.RowKit.Hid (Go.RowKit.Below w.heap.size w x))(hB:Go.RowKit.Below x.heap.size x y):Go.RowKit.Hid (Go.RowKit.Below w.heap.size w y):=O (h.out.trans (hB.mono h.out.size))
theorem L{p q:Prop}(k:q)(h:q->p:=by intro k;(try simp only[Go.Act.put,List.getElem_toArray,List.getElem_cons_succ,List.getElem_cons_zero,List.setIfInBounds_toArray,List.set_cons_zero,List.set_cons_succ]);exact k):p:=h k
theorem ao(p:Prop)[Decidable p](h:decide p=true:=by simp;omega):decide p=true:=h
theorem ap(p:Prop)[Decidable p](h:decide p=false:=by simp;omega):decide p=false:=h
abbrev af:=List (BitVec 8)
theorem Y{p:Prop}(h:p:=by omega):p:=h
theorem aj{p:Prop}(h:p:=by rfl):p:=h
theorem ag{p:Prop}(h:p:=by kernel_rfl):p:=h
theorem G{p:Prop}(h:p:=by decide):p:=h
theorem ax{p:Prop}(h:p:=by simp):p:=h
theorem ah{p q:Prop}(h:p)(k:p->q:=by intro h;simpa using h):q:=k h
theorem OP{p q:Prop}(h:Go.RowKit.Hid p)(k:p->q:=by intro h;simpa using h):q:=k h
theorem J{α:Sort _}(a:α):∃x,x=a:=⟨a,rfl⟩
section
theorem Nc{k:IntKind}{a b:Int}(h:a=b):Ending.returned (.int k a)=ja (.int k b):=by rw[h]
theorem ud(d:Int)(a:0<=d)(b:d<512)(w:World):
 Calls Tryz.prog 39 #[.int .i64 d] w λe w'=>e=ja (.tuple #[.int .i64 (512+d),.int .i64 0])/\w=w':=by
 go_enter func39,ntmps39
 go_wp2
 go_ret2;exact⟨rfl,rfl⟩
theorem BJ(n:Int)(a:1<=n)(b:n<1024)(w:World):
 Calls Tryz.prog 37 #[.int .i64 n] w λe w'=>e=ja (.bool true)/\w=w':=by
 go_enter func37,ntmps37
 go_wp2
 go_ret;exact⟨rfl,rfl⟩
theorem tk(n:Int)(a:0<=n)(b:n<4611686018427387904):wrap64 n=n:=IntWalk.wrap64_in n ⟨by omega,by omega⟩
theorem ma(n:Int)(k:Nat)(b:0<=n)(m:Int)(c:m=n/2^k)(f:m<256)(hk:k=0\/1<=m)(g:k<=64:=by omega):
 wrap64 ((k:Int)+wrap64 (bitLen m.toNat))=bitLen n.toNat:=by
 obtain⟨a,rfl⟩:=Int.eq_ofNat_of_zero_le b;have d:m=((a/2^k:Nat):Int):=by rw[c];simp
 subst d;simp only[Int.toNat_natCast]at*;have h:=bitLen_le8 (a/2^k) Y;have e:=tk (bitLen (a/2^k):Int) Y Y;rw[e,tk _ Y Y]
 rcases hk with rfl|hk
 ·simp
 have:=bitLen_shift a k Y;omega
set_option maxRecDepth 100000 in
theorem pP(n:Int)(a:0<=n)(b:n<=18446744073709551615)(w:World):
 Calls Tryz.prog 104 #[.int .u64 n] w λe w'=>e=ja (.int .i64 (bitLen n.toNat))/\w=w':=by
 go_enter func104,ntmps104
 go_wp2
 all_goals go_ret
 all_goals (refine⟨?_,rfl⟩)
 all_goals simp only[len8tab_get]
 all_goals (refine congrArg (λz=>Ending.returned (.int .i64 z)) ?_)
 ·exact ma n 56 a _ Y Y Y
 ·exact ma n 48 a _ Y Y Y
 ·exact ma n 40 a _ Y Y Y
 ·exact ma n 32 a _ Y Y Y
 ·exact ma n 24 a _ Y Y Y
 ·exact ma n 16 a _ Y Y Y
 ·exact ma n 8 a _ Y Y Y
 simpa using ma n 0 a n ax Y (.inl rfl)
theorem A8(n:Int)(a:0<=n)(b:n<=18446744073709551615)(w:World):
 Calls Tryz.prog 40 #[.int .u64 n] w λe w'=>e=ja (.int .i64 (bitLen n.toNat))/\w=w':=by
 go_enter func40,ntmps40
 go_wp2_with (go_at_call 104;refine(pP _ Y Y _).mono ?_;rintro e w' ⟨rfl,rfl⟩)
 go_ret;exact⟨rfl,rfl⟩
end
end Go.Proofs.YtdjkajodkjfjlaaGreatDoor
