/- Contracts of functions that the law reaches, part 1 of 7; no condition. -/
import Derived.Test.YtjbiancnijgmgaaGreatDoorRows
import Derived.WalkKit
import Derived.ProofKit
import Derived.BigQuiet
namespace Go.Proofs.YtjbiancnijgmgaaGreatDoor
set_option maxHeartbeats 64000000
set_option maxRecDepth 100000
set_option linter.unusedVariables false
set_option linter.unusedSimpArgs false
set_option linter.unusedSectionVars false
open Go.RowKit
open Go.Proofs.Tryz
theorem O{p:Prop}(h:p):Go.RowKit.Hid p:=h
theorem aI{p q:Prop}(h:Go.RowKit.Hid p)(k:p->q:=by intro _;omega):q:=k h
instance:CoeOut Go.World Nat:=⟨fun w=>w.heap.size⟩
theorem cT{p q:Prop}(h:p)(k:p->q:=by intro _;omega):q:=k h
theorem ee{p r q:Prop}(h:Go.RowKit.Hid p)(g:Go.RowKit.Hid r)(k:p->r->q:=by intro _ _;omega):q:=k h g
abbrev a8:Array Value:=#[Value.int IntKind.u8 0,Value.int IntKind.u8 0,Value.int IntKind.u8 0,Value.int IntKind.u8 0,Value.int IntKind.u8 0,Value.int IntKind.u8 0,Value.int IntKind.u8 0,Value.int IntKind.u8 0,Value.int IntKind.u8 0,Value.int IntKind.u8 0,Value.int IntKind.u8 0,Value.int IntKind.u8 0,Value.int IntKind.u8 0,Value.int IntKind.u8 0,Value.int IntKind.u8 0,Value.int IntKind.u8 0,Value.int IntKind.u8 0,Value.int IntKind.u8 0,Value.int IntKind.u8 0,Value.int IntKind.u8 0,Value.int IntKind.u8 0,Value.int IntKind.u8 0,Value.int IntKind.u8 0,Value.int IntKind.u8 0,Value.int IntKind.u8 0,Value.int IntKind.u8 0,Value.int IntKind.u8 0,Value.int IntKind.u8 0,Value.int IntKind.u8 0,Value.int IntKind.u8 0,Value.int IntKind.u8 0,Value.int IntKind.u8 0]
theorem ah{w x y:World}(h:Go.RowKit.Hid (Go.RowKit.Below w.heap.size w x))(hB:Go.RowKit.Below x.heap.size x y):Go.RowKit.Hid (Go.RowKit.Below w.heap.size w y):=O (h.out.trans (hB.mono h.out.size))
theorem L{p q:Prop}(k:q)(h:q->p:=by intro k;(try simp only[Go.Act.put,List.getElem_toArray,List.getElem_cons_succ,List.getElem_cons_zero,List.setIfInBounds_toArray,List.set_cons_zero,List.set_cons_succ]);exact k):p:=h k
theorem aA(p:Prop)[Decidable p](h:decide p=true:=by simp;omega):decide p=true:=h
theorem az(p:Prop)[Decidable p](h:decide p=false:=by simp;omega):decide p=false:=h
abbrev LBy:=List (BitVec 8)
theorem Y{p:Prop}(h:p:=by omega):p:=h
theorem aj{p:Prop}(h:p:=by rfl):p:=h
theorem af{p:Prop}(h:p:=by kernel_rfl):p:=h
theorem G{p:Prop}(h:p:=by decide):p:=h
theorem ar{p:Prop}(h:p:=by simp):p:=h
theorem ak{p q:Prop}(h:p)(k:p->q:=by intro h;simpa using h):q:=k h
theorem Q4{p q:Prop}(h:Go.RowKit.Hid p)(k:p->q:=by intro h;simpa using h):q:=k h
theorem J{α:Sort _}(a:α):∃x,x=a:=⟨a,rfl⟩
section
theorem Gy(d:Int)(a:0<=d)(b:d<512)(w:World):
 Calls Tryz.prog 224 #[.int .i64 d] w λe w'=>e=.returned (.tuple #[.int .i64 (512+d),.int .i64 0])/\w=w':=by
 go_enter func224,ntmps224
 go_wp2
 go_ret2;exact⟨rfl,rfl⟩
theorem Eo(n:Int)(a:0<=n)(b:n<4611686018427387904):wrap64 n=n:=IntWalk.wrap64_in n ⟨by omega,by omega⟩
theorem nj(n:Int)(k:Nat)(c:0<=n)(m:Int)(d:m=n/2^k)(g:m<256)(b:k=0\/1<=m)(h:k<=64:=by omega):
 wrap64 ((k:Int)+wrap64 (bitLen m.toNat))=bitLen n.toNat:=by
 obtain⟨a,rfl⟩:=Int.eq_ofNat_of_zero_le c;have f:m=((a/2^k:Nat):Int):=by rw[d];simp
 subst f;simp only[Int.toNat_natCast]at*;have i:=bitLen_le8 (a/2^k) Y;have e:=Eo (bitLen (a/2^k):Int) Y Y;rw[e,Eo _ Y Y]
 rcases b with rfl|b
 ·simp
 have:=bitLen_shift a k Y;omega
set_option maxRecDepth 100000 in
theorem uv(n:Int)(a:0<=n)(b:n<=18446744073709551615)(w:World):
 Calls Tryz.prog 144 #[.int .u64 n] w λe w'=>e=.returned (.int .i64 (bitLen n.toNat))/\w=w':=by
 go_enter func144,ntmps144
 go_wp2
 all_goals go_ret
 all_goals (refine⟨?_,rfl⟩)
 all_goals simp only[len8tab_get]
 all_goals (refine congrArg (λz=>Ending.returned (.int .i64 z)) ?_)
 ·exact nj n 56 a _ Y Y Y
 ·exact nj n 48 a _ Y Y Y
 ·exact nj n 40 a _ Y Y Y
 ·exact nj n 32 a _ Y Y Y
 ·exact nj n 24 a _ Y Y Y
 ·exact nj n 16 a _ Y Y Y
 ·exact nj n 8 a _ Y Y Y
 simpa using nj n 0 a n ar Y (.inl rfl)
end
end Go.Proofs.YtjbiancnijgmgaaGreatDoor
