/- Texts of the proof, part 2 of 8 (Vb Ka Va Rf Rg Kb Kc Kd Rt Ro Rx Ca Cb Cc Cd Ce Cf Cg Ch Ci Wa Da Db Qt Dc Dd De Wn Wh Wq Kg). -/
import Derived.Shelf.Small.Bits
import Derived.Shelf.Small.Wraps
import Derived.Shelf.Strconv.Itoa0
import Derived.Shelf.LaysM
import Derived.Shelf.Bytes.Len
import Derived.Shelf.Bytes.TryGrow
import Derived.Shelf.Bytes.GrowSliceCatch
import Derived.Shelf.Bytes.GrowSlice
import Derived.Shelf.Bytes.Reset
import Derived.Shelf.Bytes.Bytes
import Derived.Shelf.Sort.Plain
import Derived.Shelf.Bytes.ResetKept
import Derived.Shelf.Bytes.LenAt
import Derived.Shelf.Bytes.TryGrowAt
import Derived.Shelf.Bytes.GrowRow0At
import Derived.Shelf.Bytes.GrowRowAt
import Derived.Shelf.Bytes.GrowNilAt
import Derived.Shelf.Bytes.GrowAt
import Derived.Shelf.Bytes.WriteAt
import Derived.Shelf.Bits.Mul64
import Derived.Ground.Names2Prog
import Derived.Shelf.Slices.CompactI
import Derived.Shelf.Slices.SearchI
import Derived.Shelf.Slices.Cells
import Derived.Shelf.Slices.In.SortNone
import Derived.Shelf.Bytes.SlEqualAll
import Derived.Shelf.Bytes.Small
import Derived.Test.YthpmekcffpppkaaGreatDoorRows
import Derived.Lib.Mul64
import Derived.Laws.Bits64b
import Derived.Lib.Hide
import Derived.Deep.RegionWith
import Derived.BigGuardPart
import Derived.Deep.CutBlock
import Derived.Deep.DeepCutAuto
import Derived.RangeFuncNested
import Derived.RangeFuncLeaves
import Derived.WalkKit
import Derived.Deep.RegionHeld3
import Derived.OrdersIn
import Derived.RangeFuncBound
import Derived.RangeFuncCalls
import Derived.Shelf.Abstract
import Derived.Shelf.RegionOpen
import Derived.OwnWalkIn
import Derived.TacticsInMore
import Derived.LoopNIn
import Derived.LoopIn
import Derived.Maps.AppendAt
import Derived.Deep.AppendLies
import Derived.Below
import Derived.Laws.AppendOwn
import Derived.Laws.AppendOwnNone
import Derived.Deep.MidRow
import Derived.ProofKit
import Derived.Outline
import Derived.Deep.QuietTactic
import Derived.BigQuiet
import Derived.RegionCalls
import Derived.Deep.CutRange
import Derived.RangeFuncOwn
import Derived.RangeFuncBox
import Derived.LoopTactic
import Derived.Laws.CopyOwn
import Derived.Lib.LaidTab
import Derived.Lib.AppendIntMem
import Derived.OwnWalk
import Derived.Great.Walk
import Derived.Great.Ranges
import Derived.Deep.WholeRow
import Derived.Lib.SliceRun
import Derived.Lib.AppendZeros
import Derived.Lib.AppendStr
import Derived.StillTail
import Derived.Deep.Quiet
import Derived.Laws.MakeOwn
import Derived.Lib.ConvBytes
import Derived.Maps.OwnIn
import Derived.Test.YthpmekcffpppkaaGreatDoorZR1
namespace Go.Proofs.YthpmekcffpppkaaGreatDoor
set_option maxHeartbeats 64000000
set_option maxRecDepth 100000
set_option linter.unusedVariables false
set_option linter.unusedSimpArgs false
open Go.RowKit
open Go.Proofs.Tryz
open Go.Value renaming int->I,oneCell'->qd,ownBlock->qQ
open Go.Value renaming int->N
open _root_.Option renaming some->T,none->ic,some->qI,map_some->qV,bind_some->qW
open Go renaming World->A,Value->ih,Calls->jj,TypeId->jk,Oper->jl,undef->jp,Boxed->jr,wpOp->ju,Program->jw,Addr->jA,Exit->jC,wpOp_mono->jI,execOp->jK,maxLen->jL,Code->jS,yielded->jT,info_parts->j1,wp_region_lit->j8,wpList_load_row->j9,KeepsFrom->kn,Operand->kw,bodyPost_ret->mb,callFunc->ow,bits_or_u64_nat->qh,wpList_plain->qi,wp_store_row->qj,results_cell_row->qk,wpList_append_own->ql,callsIn_wide->qX,results_none->qY,run_underlying->qZ,run_sliceAt_slice->q4,callsIn_of_wp_marks->xf
open Go.IntKind renaming u64->ii,i64->je,u32->jg,u8->jo
open Go.Proofs.Tryz renaming prog->ja
open Go.Obj renaming cells->jb
open Go.RowKit renaming Hid->jc,Below->jd
open Go.IntKind renaming u32->jf,u64->js,wrap_u64->jY
open Go.Ending renaming returned->jh
open Go.Value renaming slice->ji,pointer->jy,tuple->jB,agg->jD,string->lo
open Go.Proofs renaming intOf->jm
open _root_.Nat renaming le_refl->jn,mod_eq_of_lt->jJ,zero_add->jR,mul_comm->jZ,le_trans->j0,eq_zero_or_pos->ki,zero_le->km,le_of_eq->ms,lt_or_ge->nn,mod_lt->ob,pow_succ->pz,shiftLeft_eq->qb,add_assoc->qe,two_pow_add_eq_or_of_lt->qm,mul_add_mod->qn,zero_mul->qt,mul_mod->qu,pow_add->qv,mul_assoc->qw,reduceAdd->qz,reduceSub->qA,lt_of_lt_of_le->qG,shiftRight_eq_div_pow->qM,mod_two_eq_zero_or_one->ri,div_le_self->rv,pow_le_pow_right->sh,lt_of_le_of_lt->tx,not_lt_zero->w9
open Go.RowKit.Below renaming heap_alloc->jq,refl->jz,heap_setCell->j4,setCell->qF
open Go.World renaming alloc_heap_new->jt,cell?->jP,size_alloc->jU,putObj_heap_other->j3,putObj->pa,grownBy->p6,setCell->qP,ownsRow_nil->qT,putObj_heap_same->q5,frozen?->wi
open Go.Proofs.Tryz renaming underlying59->jv,func222->jM,ntmps222->jN,underlying23->lm,underlying9->lr,func202->lv,ntmps202->lw,underlying327->o4,underlying5->qg
open _root_.Array renaming getElem?_eq_some_iff->jE,all_eq_true_iff_forall_mem->j5,replicate->j6,getD_eq_getD_getElem?->mz,getElem?_eq_none->qo,replicate_succ->qB,replicate_zero->qC,getElem?_modify->qO,setIfInBounds_comm->q6
open _root_.List renaming getD->jF,size_toArray->jO,length_map->jQ,cons_append->jV,getElem?_eq_some_iff->jW,replicate->jX,mem_map->j7,length_cons->kl,nil_append->oi,length_append->oo,map_cons->qa,set->qc,append_assoc->qf,length_nil->qy,push_toArray->qD,append_toArray->qE,eq_nil_of_length_eq_zero->qH,map_toArray->qJ,map_nil->qK,map_map->qS,getElem?_map->qU,all_eq_true->q8,mem_range->q9,append_nil->sg,getD_eq_getElem?_getD->wq,flatten_append->wt,map_append->wx,take_left'->xa,drop_left'->xc,getElem?_eq_getElem->xd
open _root_.Bool renaming and_eq_true->jG,or_eq_true->qs
open _root_.BitVec renaming ofNat->jH,toNat_ofNat->oj,toNat_setWidth->ol,toNat_ushiftRight->qL,toNat_shiftLeft->qN,ofInt->sn,toNat_xor->sq,toNat_or->sv,toNat_add->sx,rotateLeft_def->uy
open _root_.Int renaming toNat_natCast->qx,eq_ofNat_of_zero_le->rn
section
open Go.Shelf
def Tryzx.laysM180_ren:Go.Shelf.Ren:=⟨fun|180=>107|251=>164|252=>165|181=>213|184=>214|290=>215|324=>242|n=>n,fun|130=>253|37=>59|3=>3|75=>181|0=>0|93=>177|91=>175|131=>101|4=>4|20=>20|5=>5|80=>273|9=>9|n=>n,fun|14=>2|n=>n⟩
theorem Tryzx.laysM180:Go.Proofs.LaysM.n180 ja Tryzx.laysM180_ren:={
 mixed:=by kernel_rfl
 f180:=func107.trans (congrArg T ae)
 f181:=func213.trans (congrArg T ae)
 f184:=func214.trans (congrArg T ae)
 f251:=func164.trans (congrArg T ae)
 f252:=func165.trans (congrArg T ae)
 f290:=func215.trans (congrArg T ae)
 f324:=func242.trans (congrArg T ae)
 t0:=underlying0
 a0:=Tryz.isAgg0
 z0:=Tryz.sizeOf0
 v0:=Tryz.zeroValue0
 t3:=underlying3
 a3:=Tryz.isAgg3
 z3:=Tryz.sizeOf3
 v3:=Tryz.zeroValue3
 t4:=underlying4
 a4:=Tryz.isAgg4
 z4:=Tryz.sizeOf4
 v4:=Tryz.zeroValue4
 t20:=underlying20
 a20:=Tryz.isAgg20
 z20:=Tryz.sizeOf20
 v20:=Tryz.zeroValue20
 t37:=jv
 a37:=Tryz.isAgg59
 z37:=Tryz.sizeOf59
 v37:=Tryz.zeroValue59
 t75:=underlying181
 a75:=Tryz.isAgg181
 z75:=Tryz.sizeOf181
 v75:=Tryz.zeroValue181
 t91:=underlying175
 a91:=Tryz.isAgg175
 z91:=Tryz.sizeOf175
 v91:=Tryz.zeroValue175
 t93:=underlying177
 a93:=Tryz.isAgg177
 z93:=Tryz.sizeOf177
 v93:=Tryz.zeroValue177
 t130:=underlying253
 a130:=Tryz.isAgg253
 z130:=Tryz.sizeOf253
 v130:=Tryz.zeroValue253
 t131:=underlying101
 a131:=Tryz.isAgg101
 z131:=Tryz.sizeOf101
 v131:=Tryz.zeroValue101
 g14:=by kernel_rfl
 t5:=qg
 a5:=Tryz.isAgg5
 z5:=Tryz.sizeOf5
 v5:=Tryz.zeroValue5
 t9:=lr
 a9:=Tryz.isAgg9
 z9:=Tryz.sizeOf9
 v9:=Tryz.zeroValue9
 t80:=underlying273
 a80:=Tryz.isAgg273
 z80:=Tryz.sizeOf273
 v80:=Tryz.zeroValue273
 i0:=by kernel_rfl
 i3:=by kernel_rfl
 i4:=by kernel_rfl
 i5:=by kernel_rfl
 i9:=by kernel_rfl
 i20:=by kernel_rfl
 i37:=by kernel_rfl
 i75:=by kernel_rfl
 i80:=by kernel_rfl
 i91:=by kernel_rfl
 i93:=by kernel_rfl
 i130:=by kernel_rfl
 i131:=by kernel_rfl
 m14:=by kernel_rfl}
open Go.RowKit in
theorem Tryz.Buffer_Write_at(f:jk)(R:Nat->Option ih)(B b q:Nat)(d cs:List ih)(a:jA)(n c:Nat)(w:A)(h:LibA.IsBuffer f R 5 B b q d w)(g:B<=w.heap.size)(i:∀v∈d,v.oneCell'=true)(k:cs.length=n)(l:a.block≠b)(m:∀j v,cs[j]?=T v->w.cell? (a.add j)=T v)(j:∀v∈cs,v.oneCell'=true)(o:d.length+n<=140737488355328):
 jj ja 107 #[jy (T ⟨b,q,ic⟩),ji (T a) n c] w λe w'=>e=jh (jB #[N je n,.nilIface])/\LibA.IsBuffer f R 5 B b q (d++cs) w'/\jd B w w'/\Lib.OthersKept 5 (T b) w w':=Any.Buffer_Write_at Tryzx.laysM180 f R B b q d cs a n c w h g i k l m j o
end
theorem maskN(a:Nat)(b:a<18446744073709551616):bits .and .u64 (a:Int) 4294967295=((a%4294967296:Nat):Int):=by
 have h:=bits_and_u64_nat a 4294967295 b Y;have e:a&&&4294967295=a%4294967296:=Nat.and_two_pow_sub_one_eq_mod a 32;rw[e]at h;exact h
theorem divN(a:Nat):(a:Int)/4294967296=((a/4294967296:Nat):Int):=Y
theorem mulN(a b:Nat):(a:Int)*(b:Int)=((a*b:Nat):Int):=(Int.natCast_mul a b).symm
theorem addN(a b:Nat):(a:Int)+(b:Int)=((a+b:Nat):Int):=(Int.natCast_add a b).symm
theorem wrapN(a:Nat)(b:a<18446744073709551616):js.wrap (a:Int)=(a:Int):=by rw[jY];omega
theorem wrapM(a:Nat):js.wrap (a:Int)=((a%18446744073709551616:Nat):Int):=by rw[jY];omega
theorem zA(x y:Nat)(c:x<18446744073709551616)(d:y<18446744073709551616)(w:A):
 jj ja 201 #[N ii x,N ii y] w λe w'=>e=jh (jB #[N ii ((x*y/18446744073709551616:Nat):Int),N ii ((x*y%18446744073709551616:Nat):Int)])/\w=w':=by
 obtain⟨g,f,h,i⟩:=Lib.mul64_hi x y c d;have o:=Lib.half_mul_le (a:=x/4294967296) (b:=y/4294967296) Y Y;have p:=Lib.half_mul_le (a:=x/4294967296) (b:=y%4294967296) Y Y;have q:=Lib.half_mul_le (a:=x%4294967296) (b:=y/4294967296) Y Y;have j:x/4294967296*(y/4294967296)<18446744073709551616:=Y;have k:x/4294967296*(y%4294967296)<18446744073709551616:=Y;have l:x%4294967296*(y/4294967296)<18446744073709551616:=Y;have m:x/4294967296*(y/4294967296)+(x/4294967296*(y%4294967296)+x%4294967296*(y%4294967296)/4294967296)/4294967296<18446744073709551616:=Y;have n:x/4294967296*(y/4294967296)+(x/4294967296*(y%4294967296)+x%4294967296*(y%4294967296)/4294967296)/4294967296+((x/4294967296*(y%4294967296)+x%4294967296*(y%4294967296)/4294967296)%4294967296+x%4294967296*(y/4294967296))/4294967296<18446744073709551616:=Y
 go_enter func201,ntmps201
 go_wp2
 simp only[maskN x c,maskN y d,divN,mulN,addN,wrapN _ g,wrapN _ k,wrapN _ f,maskN _ f,wrapN _ l,wrapN _ h,wrapN _ j,wrapN _ m,wrapN _ n,wrapM (x*y)];rw[i];go_ret2;exact⟨rfl,rfl⟩
theorem rx(w:A):jj ja 237 #[N ii 4611686018427377339] w λe w'=>e=jh (N je 2)/\w=w':=by
 have a:=λw=>rV 4611686018427377339 L L w
 have e:bitLen (4611686018427377339:Int).toNat=62:=by decide+kernel
 rw[e]at a
 go_enter func237,ntmps237
 go_wp2_with (go_at_call 161;refine(a _).mono ?_;rintro e w' ⟨rfl,rfl⟩)
 go_ret;exact⟨rfl,rfl⟩
theorem fP(q r a d:Nat)(b:q*4294967295+r=a)(c:a*4294967296+d<q*18446744073709509356)(e:r=0):(q-1)*4294967295+(r+4294967295)=a/\a*4294967296+d<(q-1+1)*18446744073709509356:=Y
theorem fJ(q r a d:Nat)(b:q*4294967295+r=a)(c:a<18446744073709509356)(e:a*4294967296+d<q*18446744073709509356)(f:¬r=0)(g:q<=4294967297):(q-1)*18446744073709509356<=a*4294967296+d/\a*4294967296+d<(q-1+1)*18446744073709509356:=Y
theorem lG(q r a d:Nat)(b:d<=4294967295)(c:a<18446744073709509356)(e:4294967296<=q):a*4294967296+d<q*18446744073709509356:=Y
theorem lM(q r a d:Nat)(b:q*4294967295+r=a)(c:4294967296*r+d<q*4294925036):a*4294967296+d<q*18446744073709509356:=Y
theorem lQ(q r a d:Nat)(b:q*4294967295+r=a)(c:¬4294967296*r+d<q*4294925036):q*18446744073709509356<=a*4294967296+d:=Y
theorem lH(a d:Nat)(b:d<=4294967295)(c:a<18446744073709509356):a/4294967295*4294967295+a%4294967295=a/\a*4294967296+d<(a/4294967295+1)*18446744073709509356:=Y
theorem t_v(a d k v:Nat)(b:k*18446744073709509356<=a*4294967296+d)(c:a*4294967296+d<(k+1)*18446744073709509356)(e:v=a*4294967296+d-k*18446744073709509356):v<18446744073709509356/\v+k*18446744073709509356=a*4294967296+d:=Y
theorem lB(v q r:Nat)(a:v<18446744073709509356)(b:q=v/4294967295)(c:r=v%4294967295):
 (v:Int)/4294967295=(q:Int)/\(v:Int)-(q:Int)*4294967295=(r:Int)/\q<=4294967297/\(q:Int)*4294967295<=(v:Int)/\r<=4294967294:=Y
theorem t_w(a d k v:Nat)(b:v+k*18446744073709509356=a*4294967296+d)(c:v<18446744073709509356):
 js.wrap (js.wrap (js.wrap ((a:Int)*4294967296)+(d:Int))-js.wrap ((k:Int)*18446744073709509356))=(v:Int):=by
 simp only[jY];omega
theorem o9(c b d l e a k m v z:Nat)(s:b<18446744073709551616)(t:c<4611686018427377339)(f:d=4*c+b/4611686018427387904)(g:l=b*4%18446744073709551616)(h:e=l/4294967296)(i:a=l%4294967296)
 (j:v+k*18446744073709509356=d*4294967296+e) (n:m*18446744073709509356<=v*4294967296+a) (o:v*4294967296+a<(m+1)*18446744073709509356) (p:z=(v*4294967296+a-m*18446744073709509356)/4):
 c*18446744073709551616+b=(k*4294967296+m)*4611686018427377339+z/\z<4611686018427377339/\4*z+m*18446744073709509356=v*4294967296+a:=by
 have q:l=e*4294967296+a:=Y;have r:d*18446744073709551616+l=4*(c*18446744073709551616+b):=Y;clear f g h i;obtain⟨i,f⟩:=J (v*4294967296+a);obtain⟨B,g⟩:=J (c*18446744073709551616+b);obtain⟨K,h⟩:=J (k*4294967296);have u:i+K*18446744073709509356=4*B:=Y;rw[<-f]at n o p;rw[<-f,<-g,<-h];clear j q r f g h;omega
theorem div64_0(a:Nat)(b:a<18446744073709551616)(w:A):
 jj ja 202 #[N ii 0,N ii a,N ii 4611686018427377339] w λe w'=>
  ∃q:Int,e=jh (jB #[N ii q,N ii ((a%4611686018427377339:Nat):Int)])/\jd w w w':=by
 have c:(0:Int)<=a:=Y
 go_enter lv,lw
 go_upto_region 6 with fail
 go_quiet (fail)
 go_wp2
 go_ret2;exact⟨_,rfl,rfl,rfl,rfl,jn _,λ_ _=>rfl⟩
theorem div64_1(f n:Nat)(h0:1<=f)(VU:f<4611686018427377339)(UD:n<18446744073709551616)(w:A):
 jj ja 202 #[N ii f,N ii n,N ii 4611686018427377339] w λe w'=>
  ∃q:Int,e=jh (jB #[N ii q,N ii (((f*18446744073709551616+n)%4611686018427377339:Nat):Int)])/\jd w w w':=by
 obtain⟨a,k⟩:∃a:Nat,a=4*f+n/4611686018427387904:=⟨_,rfl⟩;obtain⟨l,m⟩:∃l:Nat,l=n*4%18446744073709551616:=⟨_,rfl⟩;obtain⟨c,j⟩:∃c:Nat,c=l/4294967296:=⟨_,rfl⟩;obtain⟨d,s⟩:∃d:Nat,d=l%4294967296:=⟨_,rfl⟩;obtain⟨q,t⟩:∃q:Nat,q=a/4294967295:=⟨_,rfl⟩;obtain⟨r,u⟩:∃r:Nat,r=a%4294967295:=⟨_,rfl⟩;have v:bits .and .u64 18446744073709509356 4294967295=4294925036:=by decide+kernel
 have x:bits .or .u64 ((f:Int)*4) ((n:Int)/4611686018427387904)=(a:Int):=by
  have g:(f:Int)*4=((f*4:Nat):Int):=Y;have o:(n:Int)/4611686018427387904=((n/4611686018427387904:Nat):Int):=Y;rw[g,o,qh _ _ Y Y,k];have h:=qm (i:=2) (b:=n/4611686018427387904) Y f;rw[show 2^2*f=f*4 by omega]at h;rw[<-h];omega
 have h:js.wrap ((n:Int)*4)=(l:Int):=by rw[jY,m];omega
 have y:(l:Int)/4294967296=(c:Int):=Y;have z:bits .and .u64 (l:Int) 4294967295=(d:Int):=by rw[maskN l Y,s]
 have p:a<18446744073709509356:=Y;have V:c<=4294967295:=Y;have W:d<=4294967295:=Y;obtain⟨C,D,o,E,B⟩:=lB a q r p t u;have g:jc (q*4294967295+r=a/\a*4294967296+c<(q+1)*18446744073709509356):=O (by rw[t,u];exact lH a c V p);have HU:=O k;have HL:=O m;have YD:=O j;have aa:=O s;clear k m j s t u;have ad:=O rx;have j:=ak ((4611686018427377339:Int)<=(f:Int));have k:=ak (f=0);have m:=ak ((f:Int)=0)
 go_enter lv,lw
 go_upto_block 0 with(go_at_call 237;refine(ad _).mono ?_;rintro e w' ⟨rfl,rfl⟩)
 clear v x h y z C D j k m
 go_cut [15,16] (λm z H=>∃k:Nat,m=N ii k/\jc (k*18446744073709509356<=a*4294967296+c/\a*4294967296+c<(k+1)*18446744073709509356)/\w=H)
 case first=>
  go_wp2_with fail
  go_loop [15,16] (λm z=>∃q r:Nat,m=N ii q/\z=N ii r/\q<=4294967297/\r<=4294967295/\jc (q*4294967295+r=a/\a*4294967296+c<(q+1)*18446744073709509356)) (λm _=>(jm m).toNat)
  case atStart=>exact⟨q,r,rfl,rfl,o,by omega,g⟩
  clear o E B g;have K:=V;have p:=p;obtain⟨q,r,rfl,rfl,o,B,g⟩:=hrel;obtain⟨h,u⟩:=g.out
  by_cases M:4294967296<=q
  ·have P:=aj ((4294967296:Int)<=(q:Int))
   have s:=O (lG q r a c K p M);have t:=O h;clear h u g
   go_upto_region 20 with fail
   by_cases j:r=0
   ·have y:=ak ((4294967296:Int)<=(r:Int)+4294967295)
    go_wp2_with fail
    refine⟨⟨q-1,r+4294967295,?_,?_,by omega,by omega,O (fP q r _ _ t.out s j)⟩,?_⟩
    ·exact congrArg (I .u64) Y
    ·exact congrArg (I .u64) Y
    simp only[jm];omega
   have y:=aj ((4294967296:Int)<=(r:Int)+4294967295)
   go_wp2_with fail
   go_meet
   exact⟨q-1,congrArg (I .u64) Y,O (fJ q r _ _ t.out p s j o),rfl⟩
  have P:=ak ((4294967296:Int)<=(q:Int))
  by_cases x:4294967296*r+c<q*4294925036
  ·have Q:=aj ((4294967296:Int)*(r:Int)+(c:Int)<(q:Int)*4294925036)
   have al:1<=q:=Y;have s:=O (lM q r a c h x);have t:=O h;clear h u g x
   go_upto_region 20 with fail
   by_cases j:r=0
   ·have y:=ak ((4294967296:Int)<=(r:Int)+4294967295)
    go_wp2_with fail
    refine⟨⟨q-1,r+4294967295,?_,?_,by omega,by omega,O (fP q r _ _ t.out s j)⟩,?_⟩
    ·exact congrArg (I .u64) Y
    ·exact congrArg (I .u64) Y
    simp only[jm];omega
   have y:=aj ((4294967296:Int)<=(r:Int)+4294967295)
   go_wp2_with fail
   go_meet
   exact⟨q-1,congrArg (I .u64) Y,O (fJ q r _ _ t.out p s j o),rfl⟩
  have Q:=ak ((4294967296:Int)*(r:Int)+(c:Int)<(q:Int)*4294925036);have R:jc (q*18446744073709509356<=a*4294967296+c/\a*4294967296+c<(q+1)*18446744073709509356):=O ⟨lQ q r _ _ h x,u⟩;clear h u g x
  go_wp2_with fail
  go_meet
  exact⟨q,rfl,R,rfl⟩
 obtain⟨k,rfl,X,rfl⟩:=hcut;obtain⟨v,C⟩:∃v:Nat,v=a*4294967296+c-k*18446744073709509356:=⟨_,rfl⟩;obtain⟨F,D⟩:=t_v a c k v X.1 X.2 C;have Sw:=O D;clear C D;have E7:=t_w a c k v Sw F;obtain⟨C,S⟩:∃C:Nat,C=v/4294967295:=⟨_,rfl⟩;obtain⟨D,U⟩:∃D:Nat,D=v%4294967295:=⟨_,rfl⟩;clear o E B g;obtain⟨E8,E9,o,E,B⟩:=lB v C D F S U;have g:jc (C*4294967295+D=v/\v*4294967296+d<(C+1)*18446744073709509356):=O (by rw[S,U];exact lH v d W F);clear S U
 go_upto_block 2 with fail
 clear E7 E8 E9
 go_cut [18,16] (λm z H=>∃k:Nat,m=N ii k/\jc (k*18446744073709509356<=v*4294967296+d/\v*4294967296+d<(k+1)*18446744073709509356)/\w=H)
 case first=>
  go_wp2_with fail
  go_loop [18,16] (λm z=>∃q r:Nat,m=N ii q/\z=N ii r/\q<=4294967297/\r<=4294967295/\jc (q*4294967295+r=v/\v*4294967296+d<(q+1)*18446744073709509356)) (λm _=>(jm m).toNat)
  case atStart=>exact⟨C,D,rfl,rfl,o,by omega,g⟩
  clear o E B g;have K:=W;have p:=F;obtain⟨q,r,rfl,rfl,o,B,g⟩:=hrel;obtain⟨h,u⟩:=g.out
  by_cases M:4294967296<=q
  ·have P:=aj ((4294967296:Int)<=(q:Int))
   have s:=O (lG q r v d K p M);have t:=O h;clear h u g
   go_upto_region 27 with fail
   by_cases j:r=0
   ·have y:=ak ((4294967296:Int)<=(r:Int)+4294967295)
    go_wp2_with fail
    refine⟨⟨q-1,r+4294967295,?_,?_,by omega,by omega,O (fP q r _ _ t.out s j)⟩,?_⟩
    ·exact congrArg (I .u64) Y
    ·exact congrArg (I .u64) Y
    simp only[jm];omega
   have y:=aj ((4294967296:Int)<=(r:Int)+4294967295)
   go_wp2_with fail
   go_meet
   exact⟨q-1,congrArg (I .u64) Y,O (fJ q r _ _ t.out p s j o),rfl⟩
  have P:=ak ((4294967296:Int)<=(q:Int))
  by_cases x:4294967296*r+d<q*4294925036
  ·have Q:=aj ((4294967296:Int)*(r:Int)+(d:Int)<(q:Int)*4294925036)
   have al:1<=q:=Y;have s:=O (lM q r v d h x);have t:=O h;clear h u g x
   go_upto_region 27 with fail
   by_cases j:r=0
   ·have y:=ak ((4294967296:Int)<=(r:Int)+4294967295)
    go_wp2_with fail
    refine⟨⟨q-1,r+4294967295,?_,?_,by omega,by omega,O (fP q r _ _ t.out s j)⟩,?_⟩
    ·exact congrArg (I .u64) Y
    ·exact congrArg (I .u64) Y
    simp only[jm];omega
   have y:=aj ((4294967296:Int)<=(r:Int)+4294967295)
   go_wp2_with fail
   go_meet
   exact⟨q-1,congrArg (I .u64) Y,O (fJ q r _ _ t.out p s j o),rfl⟩
  have Q:=ak ((4294967296:Int)*(r:Int)+(d:Int)<(q:Int)*4294925036);have R:jc (q*18446744073709509356<=v*4294967296+d/\v*4294967296+d<(q+1)*18446744073709509356):=O ⟨lQ q r _ _ h x,u⟩;clear h u g x
  go_wp2_with fail
  go_meet
  exact⟨q,rfl,R,rfl⟩
 obtain⟨m,rfl,t,rfl⟩:=hcut;obtain⟨z,j⟩:∃z:Nat,z=(v*4294967296+d-m*18446744073709509356)/4:=⟨_,rfl⟩;obtain⟨u,x,s⟩:=o9 f n a l c d k m v z UD VU HU HL YD aa Sw t.1 t.2 j;have y:((f*18446744073709551616+n)%4611686018427377339:Nat)=z:=by
  rw[u,jZ,qn,jJ x]
 obtain⟨h,H⟩:∃h:Nat,h=4*z:=⟨_,rfl⟩;rw[<-H]at s;have M:=t_w v d m h s Y;have P:(h:Int)/4=(z:Int):=Y;have K:=O y;clear j u x s y H
 go_wp2_with fail
 go_ret2;rw[K];exact⟨_,rfl,jz _ _⟩
namespace DivQ
theorem rx(w:A):jj ja 237 #[N ii 2305843009213688669] w λe w'=>e=jh (N je 3)/\w=w':=by
 have a:=λw=>rV 2305843009213688669 L L w
 have e:bitLen (2305843009213688669:Int).toNat=61:=by decide+kernel
 rw[e]at a
 go_enter func237,ntmps237
 go_wp2_with (go_at_call 161;refine(a _).mono ?_;rintro e w' ⟨rfl,rfl⟩)
 go_ret;exact⟨rfl,rfl⟩
theorem fP(q r a d:Nat)(b:q*4294967295+r=a)(c:a*4294967296+d<q*18446744073709509352)(e:r=0):(q-1)*4294967295+(r+4294967295)=a/\a*4294967296+d<(q-1+1)*18446744073709509352:=Y
theorem fJ(q r a d:Nat)(b:q*4294967295+r=a)(c:a<18446744073709509352)(e:a*4294967296+d<q*18446744073709509352)(f:¬r=0)(g:q<=4294967297):(q-1)*18446744073709509352<=a*4294967296+d/\a*4294967296+d<(q-1+1)*18446744073709509352:=Y
theorem lG(q r a d:Nat)(b:d<=4294967295)(c:a<18446744073709509352)(e:4294967296<=q):a*4294967296+d<q*18446744073709509352:=Y
theorem lM(q r a d:Nat)(b:q*4294967295+r=a)(c:4294967296*r+d<q*4294925032):a*4294967296+d<q*18446744073709509352:=Y
theorem lQ(q r a d:Nat)(b:q*4294967295+r=a)(c:¬4294967296*r+d<q*4294925032):q*18446744073709509352<=a*4294967296+d:=Y
theorem lH(a d:Nat)(b:d<=4294967295)(c:a<18446744073709509352):a/4294967295*4294967295+a%4294967295=a/\a*4294967296+d<(a/4294967295+1)*18446744073709509352:=Y
theorem t_v(a d k v:Nat)(b:k*18446744073709509352<=a*4294967296+d)(c:a*4294967296+d<(k+1)*18446744073709509352)(e:v=a*4294967296+d-k*18446744073709509352):v<18446744073709509352/\v+k*18446744073709509352=a*4294967296+d:=Y
theorem lB(v q r:Nat)(a:v<18446744073709509352)(b:q=v/4294967295)(c:r=v%4294967295):
 (v:Int)/4294967295=(q:Int)/\(v:Int)-(q:Int)*4294967295=(r:Int)/\q<=4294967297/\(q:Int)*4294967295<=(v:Int)/\r<=4294967294:=Y
theorem t_w(a d k v:Nat)(b:v+k*18446744073709509352=a*4294967296+d)(c:v<18446744073709509352):
 js.wrap (js.wrap (js.wrap ((a:Int)*4294967296)+(d:Int))-js.wrap ((k:Int)*18446744073709509352))=(v:Int):=by
 simp only[jY];omega
theorem o9(c b d l e a k m v z:Nat)(s:b<18446744073709551616)(t:c<2305843009213688669)(f:d=8*c+b/2305843009213693952)(g:l=b*8%18446744073709551616)(h:e=l/4294967296)(i:a=l%4294967296)
 (j:v+k*18446744073709509352=d*4294967296+e) (n:m*18446744073709509352<=v*4294967296+a) (o:v*4294967296+a<(m+1)*18446744073709509352) (p:z=(v*4294967296+a-m*18446744073709509352)/8):
 c*18446744073709551616+b=(k*4294967296+m)*2305843009213688669+z/\z<2305843009213688669/\8*z+m*18446744073709509352=v*4294967296+a:=by
 have q:l=e*4294967296+a:=Y;have r:d*18446744073709551616+l=8*(c*18446744073709551616+b):=Y;clear f g h i;obtain⟨i,f⟩:=J (v*4294967296+a);obtain⟨B,g⟩:=J (c*18446744073709551616+b);obtain⟨K,h⟩:=J (k*4294967296);have u:i+K*18446744073709509352=8*B:=Y;rw[<-f]at n o p;rw[<-f,<-g,<-h];clear j q r f g h;omega
theorem div64_0(a:Nat)(b:a<18446744073709551616)(w:A):
 jj ja 202 #[N ii 0,N ii a,N ii 2305843009213688669] w λe w'=>
  ∃q:Int,e=jh (jB #[N ii q,N ii ((a%2305843009213688669:Nat):Int)])/\jd w w w':=by
 have c:(0:Int)<=a:=Y
 go_enter lv,lw
 go_upto_region 6 with fail
 go_quiet (fail)
 go_wp2
 go_ret2;exact⟨_,rfl,rfl,rfl,rfl,jn _,λ_ _=>rfl⟩
theorem div64_1(f n:Nat)(h0:1<=f)(VU:f<2305843009213688669)(UD:n<18446744073709551616)(w:A):
 jj ja 202 #[N ii f,N ii n,N ii 2305843009213688669] w λe w'=>
  ∃q:Int,e=jh (jB #[N ii q,N ii (((f*18446744073709551616+n)%2305843009213688669:Nat):Int)])/\jd w w w':=by
 obtain⟨a,k⟩:∃a:Nat,a=8*f+n/2305843009213693952:=⟨_,rfl⟩;obtain⟨l,m⟩:∃l:Nat,l=n*8%18446744073709551616:=⟨_,rfl⟩;obtain⟨c,j⟩:∃c:Nat,c=l/4294967296:=⟨_,rfl⟩;obtain⟨d,s⟩:∃d:Nat,d=l%4294967296:=⟨_,rfl⟩;obtain⟨q,t⟩:∃q:Nat,q=a/4294967295:=⟨_,rfl⟩;obtain⟨r,u⟩:∃r:Nat,r=a%4294967295:=⟨_,rfl⟩;have v:bits .and .u64 18446744073709509352 4294967295=4294925032:=by decide+kernel
 have x:bits .or .u64 ((f:Int)*8) ((n:Int)/2305843009213693952)=(a:Int):=by
  have g:(f:Int)*8=((f*8:Nat):Int):=Y;have o:(n:Int)/2305843009213693952=((n/2305843009213693952:Nat):Int):=Y;rw[g,o,qh _ _ Y Y,k];have h:=qm (i:=3) (b:=n/2305843009213693952) Y f;rw[show 2^3*f=f*8 by omega]at h;rw[<-h];omega
 have h:js.wrap ((n:Int)*8)=(l:Int):=by rw[jY,m];omega
 have y:(l:Int)/4294967296=(c:Int):=Y;have z:bits .and .u64 (l:Int) 4294967295=(d:Int):=by rw[maskN l Y,s]
 have p:a<18446744073709509352:=Y;have V:c<=4294967295:=Y;have W:d<=4294967295:=Y;obtain⟨C,D,o,E,B⟩:=lB a q r p t u;have g:jc (q*4294967295+r=a/\a*4294967296+c<(q+1)*18446744073709509352):=O (by rw[t,u];exact lH a c V p);have HU:=O k;have HL:=O m;have YD:=O j;have aa:=O s;clear k m j s t u;have ad:=O rx;have j:=ak ((2305843009213688669:Int)<=(f:Int));have k:=ak (f=0);have m:=ak ((f:Int)=0)
 go_enter lv,lw
 go_upto_block 0 with(go_at_call 237;refine(ad _).mono ?_;rintro e w' ⟨rfl,rfl⟩)
 clear v x h y z C D j k m
 go_cut [15,16] (λm z H=>∃k:Nat,m=N ii k/\jc (k*18446744073709509352<=a*4294967296+c/\a*4294967296+c<(k+1)*18446744073709509352)/\w=H)
 case first=>
  go_wp2_with fail
  go_loop [15,16] (λm z=>∃q r:Nat,m=N ii q/\z=N ii r/\q<=4294967297/\r<=4294967295/\jc (q*4294967295+r=a/\a*4294967296+c<(q+1)*18446744073709509352)) (λm _=>(jm m).toNat)
  case atStart=>exact⟨q,r,rfl,rfl,o,by omega,g⟩
  clear o E B g;have K:=V;have p:=p;obtain⟨q,r,rfl,rfl,o,B,g⟩:=hrel;obtain⟨h,u⟩:=g.out
  by_cases M:4294967296<=q
  ·have P:=aj ((4294967296:Int)<=(q:Int))
   have s:=O (lG q r a c K p M);have t:=O h;clear h u g
   go_upto_region 20 with fail
   by_cases j:r=0
   ·have y:=ak ((4294967296:Int)<=(r:Int)+4294967295)
    go_wp2_with fail
    refine⟨⟨q-1,r+4294967295,?_,?_,by omega,by omega,O (fP q r _ _ t.out s j)⟩,?_⟩
    ·exact congrArg (I .u64) Y
    ·exact congrArg (I .u64) Y
    simp only[jm];omega
   have y:=aj ((4294967296:Int)<=(r:Int)+4294967295)
   go_wp2_with fail
   go_meet
   exact⟨q-1,congrArg (I .u64) Y,O (fJ q r _ _ t.out p s j o),rfl⟩
  have P:=ak ((4294967296:Int)<=(q:Int))
  by_cases x:4294967296*r+c<q*4294925032
  ·have Q:=aj ((4294967296:Int)*(r:Int)+(c:Int)<(q:Int)*4294925032)
   have al:1<=q:=Y;have s:=O (lM q r a c h x);have t:=O h;clear h u g x
   go_upto_region 20 with fail
   by_cases j:r=0
   ·have y:=ak ((4294967296:Int)<=(r:Int)+4294967295)
    go_wp2_with fail
    refine⟨⟨q-1,r+4294967295,?_,?_,by omega,by omega,O (fP q r _ _ t.out s j)⟩,?_⟩
    ·exact congrArg (I .u64) Y
    ·exact congrArg (I .u64) Y
    simp only[jm];omega
   have y:=aj ((4294967296:Int)<=(r:Int)+4294967295)
   go_wp2_with fail
   go_meet
   exact⟨q-1,congrArg (I .u64) Y,O (fJ q r _ _ t.out p s j o),rfl⟩
  have Q:=ak ((4294967296:Int)*(r:Int)+(c:Int)<(q:Int)*4294925032);have R:jc (q*18446744073709509352<=a*4294967296+c/\a*4294967296+c<(q+1)*18446744073709509352):=O ⟨lQ q r _ _ h x,u⟩;clear h u g x
  go_wp2_with fail
  go_meet
  exact⟨q,rfl,R,rfl⟩
 obtain⟨k,rfl,X,rfl⟩:=hcut;obtain⟨v,C⟩:∃v:Nat,v=a*4294967296+c-k*18446744073709509352:=⟨_,rfl⟩;obtain⟨F,D⟩:=t_v a c k v X.1 X.2 C;have Sw:=O D;clear C D;have E7:=t_w a c k v Sw F;obtain⟨C,S⟩:∃C:Nat,C=v/4294967295:=⟨_,rfl⟩;obtain⟨D,U⟩:∃D:Nat,D=v%4294967295:=⟨_,rfl⟩;clear o E B g;obtain⟨E8,E9,o,E,B⟩:=lB v C D F S U;have g:jc (C*4294967295+D=v/\v*4294967296+d<(C+1)*18446744073709509352):=O (by rw[S,U];exact lH v d W F);clear S U
 go_upto_block 2 with fail
 clear E7 E8 E9
 go_cut [18,16] (λm z H=>∃k:Nat,m=N ii k/\jc (k*18446744073709509352<=v*4294967296+d/\v*4294967296+d<(k+1)*18446744073709509352)/\w=H)
 case first=>
  go_wp2_with fail
  go_loop [18,16] (λm z=>∃q r:Nat,m=N ii q/\z=N ii r/\q<=4294967297/\r<=4294967295/\jc (q*4294967295+r=v/\v*4294967296+d<(q+1)*18446744073709509352)) (λm _=>(jm m).toNat)
  case atStart=>exact⟨C,D,rfl,rfl,o,by omega,g⟩
  clear o E B g;have K:=W;have p:=F;obtain⟨q,r,rfl,rfl,o,B,g⟩:=hrel;obtain⟨h,u⟩:=g.out
  by_cases M:4294967296<=q
  ·have P:=aj ((4294967296:Int)<=(q:Int))
   have s:=O (lG q r v d K p M);have t:=O h;clear h u g
   go_upto_region 27 with fail
   by_cases j:r=0
   ·have y:=ak ((4294967296:Int)<=(r:Int)+4294967295)
    go_wp2_with fail
    refine⟨⟨q-1,r+4294967295,?_,?_,by omega,by omega,O (fP q r _ _ t.out s j)⟩,?_⟩
    ·exact congrArg (I .u64) Y
    ·exact congrArg (I .u64) Y
    simp only[jm];omega
   have y:=aj ((4294967296:Int)<=(r:Int)+4294967295)
   go_wp2_with fail
   go_meet
   exact⟨q-1,congrArg (I .u64) Y,O (fJ q r _ _ t.out p s j o),rfl⟩
  have P:=ak ((4294967296:Int)<=(q:Int))
  by_cases x:4294967296*r+d<q*4294925032
  ·have Q:=aj ((4294967296:Int)*(r:Int)+(d:Int)<(q:Int)*4294925032)
   have al:1<=q:=Y;have s:=O (lM q r v d h x);have t:=O h;clear h u g x
   go_upto_region 27 with fail
   by_cases j:r=0
   ·have y:=ak ((4294967296:Int)<=(r:Int)+4294967295)
    go_wp2_with fail
    refine⟨⟨q-1,r+4294967295,?_,?_,by omega,by omega,O (fP q r _ _ t.out s j)⟩,?_⟩
    ·exact congrArg (I .u64) Y
    ·exact congrArg (I .u64) Y
    simp only[jm];omega
   have y:=aj ((4294967296:Int)<=(r:Int)+4294967295)
   go_wp2_with fail
   go_meet
   exact⟨q-1,congrArg (I .u64) Y,O (fJ q r _ _ t.out p s j o),rfl⟩
  have Q:=ak ((4294967296:Int)*(r:Int)+(d:Int)<(q:Int)*4294925032);have R:jc (q*18446744073709509352<=v*4294967296+d/\v*4294967296+d<(q+1)*18446744073709509352):=O ⟨lQ q r _ _ h x,u⟩;clear h u g x
  go_wp2_with fail
  go_meet
  exact⟨q,rfl,R,rfl⟩
 obtain⟨m,rfl,t,rfl⟩:=hcut;obtain⟨z,j⟩:∃z:Nat,z=(v*4294967296+d-m*18446744073709509352)/8:=⟨_,rfl⟩;obtain⟨u,x,s⟩:=o9 f n a l c d k m v z UD VU HU HL YD aa Sw t.1 t.2 j;have y:((f*18446744073709551616+n)%2305843009213688669:Nat)=z:=by
  rw[u,jZ,qn,jJ x]
 obtain⟨h,H⟩:∃h:Nat,h=8*z:=⟨_,rfl⟩;rw[<-H]at s;have M:=t_w v d m h s Y;have P:(h:Int)/8=(z:Int):=Y;have K:=O y;clear j u x s y H
 go_wp2_with fail
 go_ret2;rw[K];exact⟨_,rfl,jz _ _⟩
end DivQ
namespace DivS
theorem rx(w:A):jj ja 237 #[N ii 2305843009213688668] w λe w'=>e=jh (N je 3)/\w=w':=by
 have a:=λw=>rV 2305843009213688668 L L w
 have e:bitLen (2305843009213688668:Int).toNat=61:=by decide+kernel
 rw[e]at a
 go_enter func237,ntmps237
 go_wp2_with (go_at_call 161;refine(a _).mono ?_;rintro e w' ⟨rfl,rfl⟩)
 go_ret;exact⟨rfl,rfl⟩
theorem fP(q r a d:Nat)(b:q*4294967295+r=a)(c:a*4294967296+d<q*18446744073709509344)(e:r=0):(q-1)*4294967295+(r+4294967295)=a/\a*4294967296+d<(q-1+1)*18446744073709509344:=Y
theorem fJ(q r a d:Nat)(b:q*4294967295+r=a)(c:a<18446744073709509344)(e:a*4294967296+d<q*18446744073709509344)(f:¬r=0)(g:q<=4294967297):(q-1)*18446744073709509344<=a*4294967296+d/\a*4294967296+d<(q-1+1)*18446744073709509344:=Y
theorem lG(q r a d:Nat)(b:d<=4294967295)(c:a<18446744073709509344)(e:4294967296<=q):a*4294967296+d<q*18446744073709509344:=Y
theorem lM(q r a d:Nat)(b:q*4294967295+r=a)(c:4294967296*r+d<q*4294925024):a*4294967296+d<q*18446744073709509344:=Y
theorem lQ(q r a d:Nat)(b:q*4294967295+r=a)(c:¬4294967296*r+d<q*4294925024):q*18446744073709509344<=a*4294967296+d:=Y
theorem lH(a d:Nat)(b:d<=4294967295)(c:a<18446744073709509344):a/4294967295*4294967295+a%4294967295=a/\a*4294967296+d<(a/4294967295+1)*18446744073709509344:=Y
theorem t_v(a d k v:Nat)(b:k*18446744073709509344<=a*4294967296+d)(c:a*4294967296+d<(k+1)*18446744073709509344)(e:v=a*4294967296+d-k*18446744073709509344):v<18446744073709509344/\v+k*18446744073709509344=a*4294967296+d:=Y
theorem lB(v q r:Nat)(a:v<18446744073709509344)(b:q=v/4294967295)(c:r=v%4294967295):
 (v:Int)/4294967295=(q:Int)/\(v:Int)-(q:Int)*4294967295=(r:Int)/\q<=4294967297/\(q:Int)*4294967295<=(v:Int)/\r<=4294967294:=Y
theorem t_w(a d k v:Nat)(b:v+k*18446744073709509344=a*4294967296+d)(c:v<18446744073709509344):
 js.wrap (js.wrap (js.wrap ((a:Int)*4294967296)+(d:Int))-js.wrap ((k:Int)*18446744073709509344))=(v:Int):=by
 simp only[jY];omega
theorem o9(c b d l e a k m v z:Nat)(s:b<18446744073709551616)(t:c<2305843009213688668)(f:d=8*c+b/2305843009213693952)(g:l=b*8%18446744073709551616)(h:e=l/4294967296)(i:a=l%4294967296)
 (j:v+k*18446744073709509344=d*4294967296+e) (n:m*18446744073709509344<=v*4294967296+a) (o:v*4294967296+a<(m+1)*18446744073709509344) (p:z=(v*4294967296+a-m*18446744073709509344)/8):
 c*18446744073709551616+b=(k*4294967296+m)*2305843009213688668+z/\z<2305843009213688668/\8*z+m*18446744073709509344=v*4294967296+a:=by
 have q:l=e*4294967296+a:=Y;have r:d*18446744073709551616+l=8*(c*18446744073709551616+b):=Y;clear f g h i;obtain⟨i,f⟩:=J (v*4294967296+a);obtain⟨B,g⟩:=J (c*18446744073709551616+b);obtain⟨K,h⟩:=J (k*4294967296);have u:i+K*18446744073709509344=8*B:=Y;rw[<-f]at n o p;rw[<-f,<-g,<-h];clear j q r f g h;omega
theorem div64_0(a:Nat)(b:a<18446744073709551616)(w:A):
 jj ja 202 #[N ii 0,N ii a,N ii 2305843009213688668] w λe w'=>
  ∃q:Int,e=jh (jB #[N ii q,N ii ((a%2305843009213688668:Nat):Int)])/\jd w w w':=by
 have c:(0:Int)<=a:=Y
 go_enter lv,lw
 go_upto_region 6 with fail
 go_quiet (fail)
 go_wp2
 go_ret2;exact⟨_,rfl,rfl,rfl,rfl,jn _,λ_ _=>rfl⟩
theorem div64_1(f n:Nat)(h0:1<=f)(VU:f<2305843009213688668)(UD:n<18446744073709551616)(w:A):
 jj ja 202 #[N ii f,N ii n,N ii 2305843009213688668] w λe w'=>
  ∃q:Int,e=jh (jB #[N ii q,N ii (((f*18446744073709551616+n)%2305843009213688668:Nat):Int)])/\jd w w w':=by
 obtain⟨a,k⟩:∃a:Nat,a=8*f+n/2305843009213693952:=⟨_,rfl⟩;obtain⟨l,m⟩:∃l:Nat,l=n*8%18446744073709551616:=⟨_,rfl⟩;obtain⟨c,j⟩:∃c:Nat,c=l/4294967296:=⟨_,rfl⟩;obtain⟨d,s⟩:∃d:Nat,d=l%4294967296:=⟨_,rfl⟩;obtain⟨q,t⟩:∃q:Nat,q=a/4294967295:=⟨_,rfl⟩;obtain⟨r,u⟩:∃r:Nat,r=a%4294967295:=⟨_,rfl⟩;have v:bits .and .u64 18446744073709509344 4294967295=4294925024:=by decide+kernel
 have x:bits .or .u64 ((f:Int)*8) ((n:Int)/2305843009213693952)=(a:Int):=by
  have g:(f:Int)*8=((f*8:Nat):Int):=Y;have o:(n:Int)/2305843009213693952=((n/2305843009213693952:Nat):Int):=Y;rw[g,o,qh _ _ Y Y,k];have h:=qm (i:=3) (b:=n/2305843009213693952) Y f;rw[show 2^3*f=f*8 by omega]at h;rw[<-h];omega
 have h:js.wrap ((n:Int)*8)=(l:Int):=by rw[jY,m];omega
 have y:(l:Int)/4294967296=(c:Int):=Y;have z:bits .and .u64 (l:Int) 4294967295=(d:Int):=by rw[maskN l Y,s]
 have p:a<18446744073709509344:=Y;have V:c<=4294967295:=Y;have W:d<=4294967295:=Y;obtain⟨C,D,o,E,B⟩:=lB a q r p t u;have g:jc (q*4294967295+r=a/\a*4294967296+c<(q+1)*18446744073709509344):=O (by rw[t,u];exact lH a c V p);have HU:=O k;have HL:=O m;have YD:=O j;have aa:=O s;clear k m j s t u;have ad:=O rx;have j:=ak ((2305843009213688668:Int)<=(f:Int));have k:=ak (f=0);have m:=ak ((f:Int)=0)
 go_enter lv,lw
 go_upto_block 0 with(go_at_call 237;refine(ad _).mono ?_;rintro e w' ⟨rfl,rfl⟩)
 clear v x h y z C D j k m
 go_cut [15,16] (λm z H=>∃k:Nat,m=N ii k/\jc (k*18446744073709509344<=a*4294967296+c/\a*4294967296+c<(k+1)*18446744073709509344)/\w=H)
 case first=>
  go_wp2_with fail
  go_loop [15,16] (λm z=>∃q r:Nat,m=N ii q/\z=N ii r/\q<=4294967297/\r<=4294967295/\jc (q*4294967295+r=a/\a*4294967296+c<(q+1)*18446744073709509344)) (λm _=>(jm m).toNat)
  case atStart=>exact⟨q,r,rfl,rfl,o,by omega,g⟩
  clear o E B g;have K:=V;have p:=p;obtain⟨q,r,rfl,rfl,o,B,g⟩:=hrel;obtain⟨h,u⟩:=g.out
  by_cases M:4294967296<=q
  ·have P:=aj ((4294967296:Int)<=(q:Int))
   have s:=O (lG q r a c K p M);have t:=O h;clear h u g
   go_upto_region 20 with fail
   by_cases j:r=0
   ·have y:=ak ((4294967296:Int)<=(r:Int)+4294967295)
    go_wp2_with fail
    refine⟨⟨q-1,r+4294967295,?_,?_,by omega,by omega,O (fP q r _ _ t.out s j)⟩,?_⟩
    ·exact congrArg (I .u64) Y
    ·exact congrArg (I .u64) Y
    simp only[jm];omega
   have y:=aj ((4294967296:Int)<=(r:Int)+4294967295)
   go_wp2_with fail
   go_meet
   exact⟨q-1,congrArg (I .u64) Y,O (fJ q r _ _ t.out p s j o),rfl⟩
  have P:=ak ((4294967296:Int)<=(q:Int))
  by_cases x:4294967296*r+c<q*4294925024
  ·have Q:=aj ((4294967296:Int)*(r:Int)+(c:Int)<(q:Int)*4294925024)
   have al:1<=q:=Y;have s:=O (lM q r a c h x);have t:=O h;clear h u g x
   go_upto_region 20 with fail
   by_cases j:r=0
   ·have y:=ak ((4294967296:Int)<=(r:Int)+4294967295)
    go_wp2_with fail
    refine⟨⟨q-1,r+4294967295,?_,?_,by omega,by omega,O (fP q r _ _ t.out s j)⟩,?_⟩
    ·exact congrArg (I .u64) Y
    ·exact congrArg (I .u64) Y
    simp only[jm];omega
   have y:=aj ((4294967296:Int)<=(r:Int)+4294967295)
   go_wp2_with fail
   go_meet
   exact⟨q-1,congrArg (I .u64) Y,O (fJ q r _ _ t.out p s j o),rfl⟩
  have Q:=ak ((4294967296:Int)*(r:Int)+(c:Int)<(q:Int)*4294925024);have R:jc (q*18446744073709509344<=a*4294967296+c/\a*4294967296+c<(q+1)*18446744073709509344):=O ⟨lQ q r _ _ h x,u⟩;clear h u g x
  go_wp2_with fail
  go_meet
  exact⟨q,rfl,R,rfl⟩
 obtain⟨k,rfl,X,rfl⟩:=hcut;obtain⟨v,C⟩:∃v:Nat,v=a*4294967296+c-k*18446744073709509344:=⟨_,rfl⟩;obtain⟨F,D⟩:=t_v a c k v X.1 X.2 C;have Sw:=O D;clear C D;have E7:=t_w a c k v Sw F;obtain⟨C,S⟩:∃C:Nat,C=v/4294967295:=⟨_,rfl⟩;obtain⟨D,U⟩:∃D:Nat,D=v%4294967295:=⟨_,rfl⟩;clear o E B g;obtain⟨E8,E9,o,E,B⟩:=lB v C D F S U;have g:jc (C*4294967295+D=v/\v*4294967296+d<(C+1)*18446744073709509344):=O (by rw[S,U];exact lH v d W F);clear S U
 go_upto_block 2 with fail
 clear E7 E8 E9
 go_cut [18,16] (λm z H=>∃k:Nat,m=N ii k/\jc (k*18446744073709509344<=v*4294967296+d/\v*4294967296+d<(k+1)*18446744073709509344)/\w=H)
 case first=>
  go_wp2_with fail
  go_loop [18,16] (λm z=>∃q r:Nat,m=N ii q/\z=N ii r/\q<=4294967297/\r<=4294967295/\jc (q*4294967295+r=v/\v*4294967296+d<(q+1)*18446744073709509344)) (λm _=>(jm m).toNat)
  case atStart=>exact⟨C,D,rfl,rfl,o,by omega,g⟩
  clear o E B g;have K:=W;have p:=F;obtain⟨q,r,rfl,rfl,o,B,g⟩:=hrel;obtain⟨h,u⟩:=g.out
  by_cases M:4294967296<=q
  ·have P:=aj ((4294967296:Int)<=(q:Int))
   have s:=O (lG q r v d K p M);have t:=O h;clear h u g
   go_upto_region 27 with fail
   by_cases j:r=0
   ·have y:=ak ((4294967296:Int)<=(r:Int)+4294967295)
    go_wp2_with fail
    refine⟨⟨q-1,r+4294967295,?_,?_,by omega,by omega,O (fP q r _ _ t.out s j)⟩,?_⟩
    ·exact congrArg (I .u64) Y
    ·exact congrArg (I .u64) Y
    simp only[jm];omega
   have y:=aj ((4294967296:Int)<=(r:Int)+4294967295)
   go_wp2_with fail
   go_meet
   exact⟨q-1,congrArg (I .u64) Y,O (fJ q r _ _ t.out p s j o),rfl⟩
  have P:=ak ((4294967296:Int)<=(q:Int))
  by_cases x:4294967296*r+d<q*4294925024
  ·have Q:=aj ((4294967296:Int)*(r:Int)+(d:Int)<(q:Int)*4294925024)
   have al:1<=q:=Y;have s:=O (lM q r v d h x);have t:=O h;clear h u g x
   go_upto_region 27 with fail
   by_cases j:r=0
   ·have y:=ak ((4294967296:Int)<=(r:Int)+4294967295)
    go_wp2_with fail
    refine⟨⟨q-1,r+4294967295,?_,?_,by omega,by omega,O (fP q r _ _ t.out s j)⟩,?_⟩
    ·exact congrArg (I .u64) Y
    ·exact congrArg (I .u64) Y
    simp only[jm];omega
   have y:=aj ((4294967296:Int)<=(r:Int)+4294967295)
   go_wp2_with fail
   go_meet
   exact⟨q-1,congrArg (I .u64) Y,O (fJ q r _ _ t.out p s j o),rfl⟩
  have Q:=ak ((4294967296:Int)*(r:Int)+(d:Int)<(q:Int)*4294925024);have R:jc (q*18446744073709509344<=v*4294967296+d/\v*4294967296+d<(q+1)*18446744073709509344):=O ⟨lQ q r _ _ h x,u⟩;clear h u g x
  go_wp2_with fail
  go_meet
  exact⟨q,rfl,R,rfl⟩
 obtain⟨m,rfl,t,rfl⟩:=hcut;obtain⟨z,j⟩:∃z:Nat,z=(v*4294967296+d-m*18446744073709509344)/8:=⟨_,rfl⟩;obtain⟨u,x,s⟩:=o9 f n a l c d k m v z UD VU HU HL YD aa Sw t.1 t.2 j;have y:((f*18446744073709551616+n)%2305843009213688668:Nat)=z:=by
  rw[u,jZ,qn,jJ x]
 obtain⟨h,H⟩:∃h:Nat,h=8*z:=⟨_,rfl⟩;rw[<-H]at s;have M:=t_w v d m h s Y;have P:(h:Int)/8=(z:Int):=Y;have K:=O y;clear j u x s y H
 go_wp2_with fail
 go_ret2;rw[K];exact⟨_,rfl,jz _ _⟩
end DivS
section
structure a8(B0:Nat)(Ψ:Nat->Prop)(a B:A):Prop where
 os:B.os=a.os
 tape:B.tape=a.tape
 output:B.output=a.output
 size:a.heap.size<=B.heap.size
 block:∀k,k<a.heap.size->¬Ψ k->(B.heap[k]?=a.heap[k]?\/(B0<=k/\∃o:Obj,a.heap[k]?=T o/\o.isCells=false))
theorem a8.refl(B0:Nat)(Ψ:Nat->Prop)(a:A):a8 B0 Ψ a a:=⟨rfl,rfl,rfl,jn _,λ_ _ _=>.inl rfl⟩
theorem a8.ofBelow{B0:Nat}{Ψ:Nat->Prop}{a B:A}{n:Nat}(h:jd n a B)(b:∀k,k<a.heap.size->¬Ψ k->k<n):a8 B0 Ψ a B:=
 ⟨h.os,h.tape,h.output,h.size,λk hk c=>.inl (h.block k (b k hk c))⟩
theorem a8.alloc(B0:Nat)(Ψ:Nat->Prop)(a:A)(o:Obj):a8 B0 Ψ a (a.alloc o):=
 ⟨rfl,rfl,rfl,by simp,λk hk _=>.inl (jq _ _ _ hk)⟩
theorem a8.putObj{B0:Nat}{Ψ:Nat->Prop}{a:A}{l:Nat}{o:Obj}(b:Obj)(c:a.heap[l]?=T o)(d:o.isCells=false)(f:B0<=l):a8 B0 Ψ a (a.putObj l b):=by
 refine⟨rfl,rfl,rfl,by simp[pa],λk hk _=>?_⟩
 by_cases e:k=l
 ·subst e;exact .inr ⟨f,o,c,d⟩
 exact .inl (j3 e)
def bj{β:Type}(B0:Nat)(c:β->(Nat->Prop)->A->Prop):Prop:=
 ∀s Ψ a b B,c s Ψ b->a8 B0 a b B->(∀k,Ψ k->a k)->(∀k,a k->Ψ k\/b.heap.size<=k)->c s a B
theorem bj.and{β:Type}{B0:Nat}{a b:β->(Nat->Prop)->A->Prop}(h:bj B0 a)(j:bj B0 b):bj B0 (λs Ψ W=>a s Ψ W/\b s Ψ W):=
 λs Ψ c d B e f g i=>⟨h s Ψ c d B e.1 f g i,j s Ψ c d B e.2 f g i⟩
theorem bj.keep{β:Type}{B0:Nat}{a:β->(Nat->Prop)->A->Prop}(h:bj B0 a){s:β}{Ψ:Nat->Prop}{b B:A}(c:a s Ψ b)(d:a8 B0 Ψ b B):a s Ψ B:=
 h s Ψ Ψ b B c d (λ_ h=>h) (λ_ h=>.inl h)
theorem a8.cells{B0:Nat}{Ψ:Nat->Prop}{a B:A}(h:a8 B0 Ψ a B){k:Nat}{c:Array ih}{t:jk}{f:Nat×Nat}(hk:a.heap[k]?=T (jb c t f))(d:¬Ψ k):B.heap[k]?=T (jb c t f):=by
 rcases h.block k (jE.1 hk).1 d with e|⟨_,o,b,g⟩
 ·exact e.trans hk
 rw[hk]at b;cases b;cases g
theorem a8.row{B0:Nat}{Ψ:Nat->Prop}{a B:A}(h:a8 B0 Ψ a B){base:Nat}{e:jk}{size:Nat}{v:ih}{n:Nat}{xs:List ih}
 (b:a.ownsRow base e size v n xs) (c:∀j,v.ownBlock=T j->¬Ψ j):B.ownsRow base e size v n xs:=by
 refine⟨b.1,?_⟩
 rcases b.2 with d|⟨g,f,i,rfl,j,k,l⟩
 ·exact .inl d
 exact .inr ⟨g,f,i,rfl,j,h.cells k (c g rfl),l⟩
def kN(b:Nat)(t:jk)(base:Nat)(e:jk)(size n:Nat)(xs:List ih)(a:ih->Prop)(Ψ:Nat->Prop)(W:A):Prop:=
 ∃v,jr W b t v/\¬Ψ b/\W.ownsRow base e size v n xs/\(∀j,v.ownBlock=T j->¬Ψ j)/\a v
theorem oM{β:Type}(B0 b:Nat)(t:jk)(base:Nat)(e:jk)(size:Nat)(n:β->Nat)(f:β->List ih)(o:β->ih->Prop):
 bj B0 (λs Ψ W=>kN b t base e size (n s) (f s) (o s) Ψ W):=by
 rintro s Ψ a u B ⟨v,c,p,d,q,r⟩ g w i;have k:¬a b:=λh=>by rcases i _ h with h|h;exact p h;have:=c.lt;omega
 have l:∀j,v.ownBlock=T j->¬a j:=λj m h=>by
  rcases i _ h with h|h
  ·exact q j m h
  have:=(d.lt j m).2;omega
 exact⟨v,g.cells c k,k,g.row d l,l,r⟩
theorem gM{β:Type}(B0 b:Nat)(t:jk)(f:β->ih):bj B0 (λs Ψ W=>jr W b t (f s)/\¬Ψ b):=by
 rintro s Ψ d j B ⟨a,e⟩ g k i;have c:¬d b:=λh=>by rcases i _ h with h|h;exact e h;have:=a.lt;omega
 exact⟨g.cells a c,c⟩
theorem lq{β:Type}(B0 n:Nat)(w:A)(i:n<=w.heap.size)(j:n<=B0):bj B0 (fun(_:β) Ψ W=>jd n w W/\∀k,Ψ k->n<=k):=by
 rintro s Ψ d l B ⟨b,f⟩ a m g;have c:∀k,d k->n<=k:=λk h=>by
  rcases g _ h with h|h
  ·exact f k h
  have:=b.size;omega
 refine⟨b.trans ⟨a.os,a.tape,a.output,a.size,λk hk=>?_⟩,c⟩
 rcases a.block k (aU b.size) (λh=>by have:=c k h;omega)with e|⟨h,_⟩
 ·exact e
 omega
theorem grownBy_drew{a B:A}{r:Option Nat}(h:a.drew.grownBy B r):a.grownBy B r:=⟨h.os,h.tape,h.output,h.size,h.block⟩
theorem oF{a d:A}{n₀ b B0:Nat}{t e:jk}{size k m:Nat}{v c:ih}{xs f:List ih}{p:Obj}{Ψ:Nat->Prop}
 (q:jr a b t v) (r:t≠e) (s:a.ownsRow n₀ e size v k xs) (u:n₀<=a.heap.size) (w:n₀<=b) (g:¬Ψ b) (i:∀j,v.ownBlock=T j->¬Ψ j)
 (l:∀j,Ψ j->j<a.heap.size) (y:d.ownsRow n₀ e size c m f) (n:(a.alloc p).grownBy d v.ownBlock) (z:∀j,c.ownBlock=T j->v.ownBlock=T j\/j=a.heap.size+1):
 (kn B0 a (d.setCell ⟨b,0,ic⟩ c)/\jd n₀ a (d.setCell ⟨b,0,ic⟩ c)/\∀k,Ψ k->(d.setCell ⟨b,0,ic⟩ c).heap[k]?=a.heap[k]?)/\
 kN b t n₀ e size m f (λx=>x=c) Ψ (d.setCell ⟨b,0,ic⟩ c):=by
 obtain⟨H,x,B,C,D⟩:=q.appended r s u w y n;refine⟨⟨C.from _,D,λk hk=>?_⟩,c,x,g,B,λj E o=>?_,rfl⟩
 ·have F:=l k hk
  rw[j4 _ _ _ _ (show k≠b by rintro rfl;exact g hk),n.block k (by simp;omega) (λh=>i k h.symm hk),jq _ _ _ F]
 rcases z j E with h|h
 ·exact i j h o
 have:=l j o;omega
theorem eZ{β:Type}(B0:Nat)(p:β->Prop):bj B0 (λs _ _=>p s):=λ_ _ _ _ _ h _ _ _=>h
def dK{α:Type}(P:jw)(g:Nat)(lb:Array ih)(encs:α->Array ih)(f:Nat->Prop)(n₀:Nat)(S h V:List α->Prop)(w:A):Prop:=
 ∀(l:Nat) (c d:List α->(Nat->Prop)->A->Prop) (W:A),jd w w W->bj W.heap.size c->bj W.heap.size d->
  (∀a x Ψ b,c a Ψ b->(∀k,Ψ k->k<b.heap.size)->V (a++[x])->YieldAt Fence.wide 0 P l (encs x) b λe B=>
   (e=jh (.bool true)/\c (a++[x]) Ψ B/\jd n₀ b B/\∀k,Ψ k->B.heap[k]?=b.heap[k]?)\/(e=jh (.bool false)/\d (a++[x]) Ψ B/\jd n₀ b B/\∀k,Ψ k->B.heap[k]?=b.heap[k]?))->
  c [] f W->
  jj P g (#[.func (.yield l) #[] #[]]++lb) W λe B=>(∃v,e=jh v)/\((∃xs Ψ,S xs/\c xs Ψ B)\/(∃a Ψ,h a/\d a Ψ B))
def Cx{α:Type}(P:jw)(g:Nat)(lb:Array ih)(encs:α->Array ih)(f:Nat->Prop)(n₀:Nat)(S h:List α->Prop)(V i:List α->(Nat->Prop)->A->Prop)(j:α->Nat->Prop)(w:A):Prop:=
 ∀(l:Nat) (c d:List α->(Nat->Prop)->A->Prop) (W:A),jd w w W->bj W.heap.size c->bj W.heap.size d->(∀a Ψ B,c a Ψ B->i a Ψ B)->
  (∀b x Ψ a,c b Ψ a->c b (λk=>Ψ k\/j x k) a->(∀k,Ψ k->k<a.heap.size)->V (b++[x]) Ψ a->YieldAt Fence.wide 0 P l (encs x) a λe B=>
   (e=jh (.bool true)/\c (b++[x]) Ψ B/\jd n₀ a B/\∀k,Ψ k->B.heap[k]?=a.heap[k]?)\/(e=jh (.bool false)/\d (b++[x]) Ψ B/\jd n₀ a B/\∀k,Ψ k->B.heap[k]?=a.heap[k]?))->
  c [] f W->
  jj P g (#[.func (.yield l) #[] #[]]++lb) W λe B=>(∃v,e=jh v)/\((∃xs Ψ,S xs/\c xs Ψ B)\/(∃b Ψ,h b/\d b Ψ B))
theorem dK.v{α:Type}{P:jw}{g:Nat}{lb:Array ih}{encs:α->Array ih}{a:Nat->Prop}{n₀:Nat}{S b V:List α->Prop}{w:A}(h:dK P g lb encs a n₀ S b V w):Cx P g lb encs a n₀ S b (λc _ _=>V c) (λ_ _ _=>True) (λ_ _=>False) w:=λl d e W f i j _ k=>h l d e W f i j λm x Ψ n c=>k m x Ψ n c (by simpa using c)
def nI{α:Type}(B0 n₀:Nat)(c:List α->(Nat->Prop)->A->Prop)(b:jS->List α->(Nat->Prop)->A->Prop)(xs:List α)(Ψ:Nat->Prop)(a:A):jC->Act->A->Prop
 | .normal,_,B=>(kn B0 a B/\jd n₀ a B/\∀k,Ψ k->B.heap[k]?=a.heap[k]?)/\c xs Ψ B
 | .ret,_,B=>(kn B0 a B/\jd n₀ a B/\∀k,Ψ k->B.heap[k]?=a.heap[k]?)/\b .ret xs Ψ B
 | .exit d,_,B=>(kn B0 a B/\jd n₀ a B/\∀k,Ψ k->B.heap[k]?=a.heap[k]?)/\b (.exit d) xs Ψ B
 | .goto t,_,B=>(kn B0 a B/\jd n₀ a B/\∀k,Ψ k->B.heap[k]?=a.heap[k]?)/\b (.goto t) xs Ψ B
 | .panic _,_,_=>False
 | .outgrown,_,_=>False
def uG{α:Type}(B0 n₀:Nat)(c:List α->(Nat->Prop)->A->Prop)(b:jS->List α->(Nat->Prop)->A->Prop)(xs:List α)(Ψ:Nat->Prop)(a:A):jC->Act->A->Prop
 | .normal,_,B=>((B.heap[B0]?=a.heap[B0]?/\B.heap[B0+1]?=a.heap[B0+1]?)/\jd n₀ a B/\∀k,Ψ k->B.heap[k]?=a.heap[k]?)/\c xs Ψ B
 | .ret,_,B=>((B.heap[B0]?=a.heap[B0]?/\B.heap[B0+1]?=a.heap[B0+1]?)/\jd n₀ a B/\∀k,Ψ k->B.heap[k]?=a.heap[k]?)/\b .ret xs Ψ B
 | .exit d,_,B=>((B.heap[B0]?=a.heap[B0]?/\B.heap[B0+1]?=a.heap[B0+1]?)/\jd n₀ a B/\∀k,Ψ k->B.heap[k]?=a.heap[k]?)/\b (.exit d) xs Ψ B
 | .goto t,_,B=>((B.heap[B0]?=a.heap[B0]?/\B.heap[B0+1]?=a.heap[B0+1]?)/\jd n₀ a B/\∀k,Ψ k->B.heap[k]?=a.heap[k]?)/\b (.goto t) xs Ψ B
 | .panic _,_,_=>False
 | .outgrown,_,_=>False
theorem ie{n:Nat}{W:A}{l:Nat}{a:Obj}(b:n<=l):jd n W (W.putObj l a):=
 ⟨rfl,rfl,rfl,by simp[pa],λk hk=>j3 Y⟩
variable {P:jw}
theorem nI.two{α:Type}{B0 n₀:Nat}{c:List α->(Nat->Prop)->A->Prop}{d:jS->List α->(Nat->Prop)->A->Prop}{xs:List α}{Ψ:Nat->Prop}{b B:A}{e:jC}{a:Act}{r:Loop}(f:b.heap[B0]?=T (.deferred (T [])))(g:b.heap[B0+1]?=T (.loop r))(h:nI B0 n₀ c d xs Ψ b e a B):uG B0 n₀ c d xs Ψ b e a B:=by
 cases e<;>first
  |exact h
  |exact⟨⟨⟨(h.1.1.same _ _ (jn _) f rfl).trans f.symm,(h.1.1.same _ _ (Nat.le_succ _) g rfl).trans g.symm⟩,h.1.2⟩,h.2⟩
theorem yw{α:Type}{g:kw}{ps:Array Tmp}{assign body:jS}{au:jC->Act->A->Prop}{a:Act}{w:A}{n:Nat}
 {gf:Nat} {lb:Array ih} (hg:a.eval g=.func (.func gf) #[] lb) (eg:∀args w,(ow gf args).run P w=.ok (.enter gf args) w)
 {encs:α->Array ih} {Ψ0:Nat->Prop} {n₀:Nat} {S Sp:List α->Prop} {V Qi:List α->(Nat->Prop)->A->Prop} {Φ:α->Nat->Prop} (TQ:Cx P gf lb encs Ψ0 n₀ S Sp V Qi Φ w)
 (UF:n₀<=w.heap.size) (WP:∀x,(encs x).size=ps.size) (UH:∀k,Ψ0 k->k<w.heap.size)
 (i:List α->(Nat->Prop)->A->Prop) (Q:jS->List α->(Nat->Prop)->A->Prop) (F:bj w.heap.size i) (hG:∀u Ψ B,i u Ψ B->Qi u Ψ B) (R:∀c,bj w.heap.size (Q c)) (h0:i [] Ψ0 w)
 (Ax:α->Act->(Nat->Prop)->A->Prop) (bd:bj w.heap.size (fun(s:α×Act) Ψ W=>Ax s.1 s.2 Ψ W))
 (bf:∀(l:Nat) (b:List α) (x:α) (Ψ:Nat->Prop) (d:A) (K:Act->A->Prop),i b Ψ d->i b (λk=>Ψ k\/Φ x k) d->V (b++[x]) Ψ d->(∀k,Ψ k->k<d.heap.size)->
  (∀z m,jd d d m->i b Ψ m->Ax x z Ψ m->K z m)->
  assign.wpIn (Fence.wide.inRound l) 0 P (Exit.then K (λ_ _ _=>False)) {tmps:=(ps.zip (encs x)).foldl (λt (p,v)=>t.setIfInBounds p v) a.tmps,defers:=[]} d)
 (bg:∀(l:Nat) (b:List α) (x:α) (Ψ:Nat->Prop) (z:Act) (d:A),i b Ψ d->Ax x z Ψ d->(∃o e,V (b++[x]) o e)->(∀k,Ψ k->k<d.heap.size)->w.heap.size+2<=d.heap.size->l=w.heap.size+1->d.heap[w.heap.size]?=T (.deferred (T []))->(∃r,d.heap[w.heap.size+1]?=T (.loop r))->
  body.wpIn (Fence.wide.inRound l) 0 P (uG w.heap.size n₀ i Q (b++[x]) Ψ d) z d)
 (bh:∀(D:Nat) (xs:List α) (Ψ:Nat->Prop) (W:A),D=w.heap.size->S xs->i xs Ψ W->W.heap[D]?=T (.deferred (T []))->au .normal {a with defers:={target:=.collected D,args:=#[]}::a.defers} W)
 (bk:∀(D:Nat) (c:jS) (b:List α) (Ψ:Nat->Prop) (W:A),D=w.heap.size->Sp b->Q c b Ψ W->W.heap[D]?=T (.deferred (T []))->c.wpIn Fence.wide n P au {a with defers:={target:=.collected D,args:=#[]}::a.defers} W):
 (Code.rangeFunc g ps assign body).wpIn Fence.wide n P au a w:=by
 refine wpIn_rangeFunc ?_;intro fn bl;obtain⟨f,l⟩:∃f:LoopState->Option jS->Loop,f=λH K=>{state:=H,pending:=K,fn,tmps:=a.tmps,params:=ps,assign,body,defers:=w.heap.size}:=⟨_,rfl⟩
 obtain⟨j,M⟩:∃j,(w.alloc (.deferred (T []))).alloc (.loop (f .ready ic))=j:=⟨_,rfl⟩;have bC:j.heap.size=w.heap.size+2:=by rw[<-M];simp
 have bm:j.heap[w.heap.size+1]?=T (.loop (f .ready ic)):=by
  rw[<-M];have:=jt (w.alloc (.deferred (T []))) (.loop (f .ready ic));rwa [jU]at this
 have bn:j.heap[w.heap.size]?=T (.deferred (T [])):=by
  rw[<-M];exact(jq _ _ _ ar).trans (jt w _)
 have bo:i [] Ψ0 j:=by rw[<-M];exact F.keep (F.keep h0 (a8.alloc _ _ _ _)) (a8.alloc _ _ _ _)
 have bq:jd w w j:=by
  rw[<-M];exact(((jz _ w).alloc (jn _) _).alloc ar _)
 let U (H:LoopState) (K:Option jS) (Ψ:Nat->Prop) (W:A):Prop:=
  W.heap[w.heap.size+1]?=T (.loop (f H K))/\W.heap[w.heap.size]?=T (.deferred (T []))/\¬Ψ w.heap.size/\¬Ψ (w.heap.size+1)
 have ba:∀H K,bj j.heap.size (fun(_:List α) Ψ W=>U H K Ψ W):=by
  rintro H K s Ψ o d B ⟨p,q,D,E⟩ e X r;have a1:=(jE.1 p).1;have y:¬o w.heap.size:=λh=>by rcases r _ h with h|h;exact D h;omega
  have C:¬o (w.heap.size+1):=λh=>by rcases r _ h with h|h;exact E h;omega
  refine⟨?_,?_,y,C⟩
  ·rcases e.block _ a1 C with h|⟨h,_⟩
   ·exact h.trans p
   omega
  rcases e.block _ Y y with h|⟨h,_⟩
  ·exact h.trans q
  omega
 have up:∀{β:Type} {i:β->(Nat->Prop)->A->Prop},bj w.heap.size i->bj j.heap.size i:=by
  intro β i h s Ψ o d B r e p q;refine h s Ψ o d B r ⟨e.os,e.tape,e.output,e.size,λk hk C=>?_⟩ p q
  rcases e.block k hk C with h|⟨h,y⟩
  ·exact .inl h
  exact .inr ⟨by omega,y⟩
 have br:bj j.heap.size (fun(b:List α) Ψ W=>∃c,Q c b Ψ W/\U .done (T c) Ψ W):=by
  rintro s Ψ o d B ⟨c,r,y⟩ e p q;exact⟨c,up (R c) s Ψ o d B r e p q,ba _ _ s Ψ o d B y e p q⟩
 refine⟨w.heap.size+1,[{target:=.collected w.heap.size,args:=#[]}],j,{target:=.fn (.func gf) lb,args:=#[.func (.yield (w.heap.size+1)) #[] #[]]},j,gf,
  #[.func (.yield (w.heap.size+1)) #[] #[]]++lb,j,?_,?_,?_,?_,?_,?_⟩
 ·rw[<-M,l];exact run_enterLoop_outer _ _ _ _ _
 ·simp only[resolve,hg]
  simp[go_sem]
 ·intro e d;simp[Target.leads]at d;subst d;trivial
 ·simp[invoke,go_sem,eg]
 ·intro h;simp[Fence.wide]at h
 refine callsIn_wide.2 ((TQ (w.heap.size+1) (λb Ψ W=>i b Ψ W/\U .ready ic Ψ W) (λb Ψ W=>∃c,Q c b Ψ W/\U .done (T c) Ψ W) j bq
  ((up F).and (ba _ _)) br (λu Ψ B h=>hG u Ψ B h.1) ?_ ⟨bo,bm,bn,λh=>by have:=UH _ h;omega,λh=>by have:=UH _ h;omega⟩).mono ?_)
 ·
  rintro b x Ψ W ⟨X,q,hk,hd,aa⟩ ⟨bs,-⟩ a2 bb;have a1:w.heap.size+1<W.heap.size:=(jE.1 q).1;have hy:=run_yield (P:=P) (args:=encs x) q (by rw[l];exact WP x);rw[l]at hy;refine⟨fn,_,assign,body,hy,roundIn_of_wpIn bl (bf _ b x Ψ W _ X bs bb a2 ?_)⟩;intro z m ad bu bv;have a3:m.heap[w.heap.size+1]?=T (.loop (f .ready ic)):=(ad.block _ a1).trans q;have bw:m.heap[w.heap.size]?=T (.deferred (T [])):=(ad.block _ Y).trans hk;have bA:w.heap.size+1<m.heap.size:=(jE.1 a3).1;refine⟨_,run_beginRound a3 (by rw[l]),?_⟩;have a4:(m.putObj (w.heap.size+1) (.loop {f .ready ic with state:=.busy})).heap[w.heap.size+1]?=T (.loop {f .ready ic with state:=.busy}):=q5 bA;have a5:(m.putObj (w.heap.size+1) (.loop {f .ready ic with state:=.busy})).heap[w.heap.size]?=T (.deferred (T [])):=(j3 Y).trans bw;have t2:a8 w.heap.size Ψ m (m.putObj (w.heap.size+1) (.loop {f .ready ic with state:=.busy})):=a8.putObj _ a3 rfl Y;refine wpIn_mono (bg _ b x Ψ z _ (F.keep bu t2) (bd.keep (s:=(x,z)) bv t2) ⟨_,_,bb⟩ (λk B=>by have:=a2 k B;have:=ad.size;simp[pa];omega) (by simp[pa];omega) rfl a5 ⟨_,a4⟩) ?_;obtain⟨r,Sx⟩:∃r,m.putObj (w.heap.size+1) (.loop {f .ready ic with state:=.busy})=r:=⟨_,rfl⟩;have bc:jd n₀ W r:=by rw[<-Sx];exact(ad.mono Y).trans (ie Y)
  have bB:∀k,Ψ k->k<W.heap.size->r.heap[k]?=W.heap[k]?:=by
   intro k B D;rw[<-Sx,j3 (by intro e;subst e;exact aa B),ad.block k D]
  have bI:W.heap.size<=r.heap.size:=bc.size;rw[Sx]at a4 a5⊢;have al:∀(h:Option jS) (d:A),((d.heap[w.heap.size]?=r.heap[w.heap.size]?/\d.heap[w.heap.size+1]?=r.heap[w.heap.size+1]?)/\jd n₀ r d/\∀k,Ψ k->d.heap[k]?=r.heap[k]?)->
   (Instr.endRound (w.heap.size+1) h).run P d=.ok (.bool h.isNone) (d.putObj (w.heap.size+1) (.loop (f (if h.isNone then .ready else .done) h)))/\
   a8 w.heap.size Ψ d (d.putObj (w.heap.size+1) (.loop (f (if h.isNone then .ready else .done) h)))/\
   U (if h.isNone then .ready else .done) h Ψ (d.putObj (w.heap.size+1) (.loop (f (if h.isNone then .ready else .done) h)))/\
   jd n₀ W (d.putObj (w.heap.size+1) (.loop (f (if h.isNone then .ready else .done) h)))/\
   ∀k,Ψ k->(d.putObj (w.heap.size+1) (.loop (f (if h.isNone then .ready else .done) h))).heap[k]?=W.heap[k]?:=by
   rintro h d ⟨o,u,y⟩;have E:=o.2.trans a4;have p:=run_endRound (P:=P) h E;rw[l]at p⊢;refine⟨p,a8.putObj _ E rfl Y,⟨?_,(j3 Y).trans (o.1.trans a5),hd,aa⟩,(bc.trans u).trans (ie Y),λk B=>?_⟩
   ·rw[l];exact q5 (jE.1 E).1
   rw[j3 (by intro e;subst e;exact aa B),y k B]
   by_cases D:k<W.heap.size
   ·exact bB k B D
   exact absurd (a2 k B) D
  rintro e bK d C
  cases e with
  |normal=>
   obtain⟨o,B⟩:=C;obtain⟨p,D,u,E,y⟩:=al ic d o;exact⟨_,_,p,.inl ⟨rfl,⟨F.keep B D,u⟩,E,y⟩⟩
  |ret=>
   obtain⟨o,B⟩:=C;obtain⟨p,D,u,E,y⟩:=al (T .ret) d o;exact⟨_,_,p,.inr ⟨rfl,⟨.ret,(R _).keep B D,u⟩,E,y⟩⟩
  |exit id=>
   obtain⟨o,B⟩:=C;obtain⟨p,D,u,E,y⟩:=al (T (.exit id)) d o;exact⟨_,_,p,.inr ⟨rfl,⟨.exit id,(R _).keep B D,u⟩,E,y⟩⟩
  |goto t=>
   obtain⟨o,B⟩:=C;obtain⟨p,D,u,E,y⟩:=al (T (.goto t)) d o;exact⟨_,_,p,.inr ⟨rfl,⟨.goto t,(R _).keep B D,u⟩,E,y⟩⟩
  |panic o=>exact C.elim
  |outgrown=>exact C.elim
 
 rintro e k ⟨⟨v,rfl⟩,(⟨xs,Ψ,d,X,q,hk,hd,aa⟩|⟨b,Ψ,h,c,X,q,hk,hd,aa⟩)⟩
 ·exact⟨ic,_,by have:=run_endLoop (P:=P) q (by rw[l];simp);rw[l]at this;exact this,bh _ xs Ψ _ rfl d (F.keep X (a8.putObj _ q rfl Y)) ((j3 Y).trans hk)⟩
 exact⟨T c,_,by have:=run_endLoop (P:=P) q (by rw[l];simp);rw[l]at this;exact this,bk _ c b Ψ _ rfl h ((R c).keep X (a8.putObj _ q rfl Y)) ((j3 Y).trans hk)⟩
theorem nO{α:Type}{g:kw}{q:Array Tmp}{assign body:jS}{u:jC->Act->A->Prop}{a:Act}{w:A}{n:Nat}
 {gf:Nat} {lb:Array ih} (C:a.eval g=.func (.func gf) #[] lb) (E:∀args w,(ow gf args).run P w=.ok (.enter gf args) w)
 {encs:α->Array ih} {y:Nat->Prop} {n₀:Nat} {S z V:List α->Prop} (F:dK P gf lb encs y n₀ S z V w)
 (H:n₀<=w.heap.size) (M:∀x,(encs x).size=q.size) (Q:∀k,y k->k<w.heap.size)
 (f:List α->(Nat->Prop)->A->Prop) (m:jS->List α->(Nat->Prop)->A->Prop) (R:bj w.heap.size f) (U:∀c,bj w.heap.size (m c)) (X:f [] y w)
 (o:α->Act->(Nat->Prop)->A->Prop) (aa:bj w.heap.size (fun(s:α×Act) Ψ W=>o s.1 s.2 Ψ W))
 (s:∀(l:Nat) (b:List α) (x:α) (Ψ:Nat->Prop) (d:A) (K:Act->A->Prop),f b Ψ d->V (b++[x])->
  (∀i e,jd d d e->f b Ψ e->o x i Ψ e->K i e)->
  assign.wpIn (Fence.wide.inRound l) 0 P (Exit.then K (λ_ _ _=>False)) {tmps:=(q.zip (encs x)).foldl (λt (p,v)=>t.setIfInBounds p v) a.tmps,defers:=[]} d)
 (t:∀(l:Nat) (b:List α) (x:α) (Ψ:Nat->Prop) (i:Act) (d:A),f b Ψ d->o x i Ψ d->V (b++[x])->(∀k,Ψ k->k<d.heap.size)->w.heap.size<=d.heap.size->(∃r,d.heap[l]?=T (.loop r))->
  body.wpIn (Fence.wide.inRound l) 0 P (nI w.heap.size n₀ f m (b++[x]) Ψ d) i d)
 (v:∀(D:Nat) (xs:List α) (Ψ:Nat->Prop) (W:A),w.heap.size<=D->S xs->f xs Ψ W->W.heap[D]?=T (.deferred (T []))->u .normal {a with defers:={target:=.collected D,args:=#[]}::a.defers} W)
 (ad:∀(D:Nat) (c:jS) (b:List α) (Ψ:Nat->Prop) (W:A),w.heap.size<=D->z b->m c b Ψ W->W.heap[D]?=T (.deferred (T []))->c.wpIn Fence.wide n P u {a with defers:={target:=.collected D,args:=#[]}::a.defers} W):
 (Code.rangeFunc g q assign body).wpIn Fence.wide n P u a w:=by
 refine yw C E F.v H M Q f m R (λ_ _ _ _=>trivial) U X o aa (λl b x Ψ d K p _ j _ hk=>s l b x Ψ d K p j hk) (λl b x Ψ i d p K j hΨ e h h1 k=>?_) (λD xs Ψ W e=>v D xs Ψ W (ms e.symm)) (λD c b Ψ W e=>ad D c b Ψ W (ms e.symm));obtain⟨-,-,j⟩:=j;obtain⟨r,k⟩:=k;exact wpIn_mono (t l b x Ψ i d p K j hΨ Y ⟨r,by rw[h];exact k⟩) λe a B h=>nI.two h1 k h
end
section
section
variable {P:jw} {ops:Array jl} {Q:jC->Act->A->Prop} {md:Region.Mode} {S:A->Prop}
def rt(ops:Array jl):Bool:=ops.all λo=>match o.op with| .defer .. =>false|_=>true
theorem NL(h:rt ops=true)(j:Nat)(o:jl)(c:Call)(a:ops[j]?=T o):o.op≠.defer c:=by
 intro b;have:=j5.1 h o (Array.mem_of_getElem? a);simp[b]at this
theorem Gw{l n i:Nat}(e:¬LetsOut Q)(g:rt ops=true){K:Act->A->Prop}{a:Act}{w:A}
 (h:ju P ops Q i K a w):wpOpIn (Fence.wide.inRound l) n P ops Q i K a w:=by
 unfold ju at h;unfold wpOpIn
 cases ho:ops[i]? with
 |none=>simpa [ho]using h
 |some o=>
  simp only[ho]at h⊢
  split
  ·rename_i b
   simp only[b,if_true]at h
   rcases h with h|⟨_,j⟩
   ·refine⟨λ_ _=>trivial,?_⟩
    show o.uponIn (Fence.wide.inRound l) n P a K Q ((o.semAt (T l) a.eval).run P w);rw[Oper.semAt_eq _ _ _ (λc=>NL g i o c ho)];unfold Oper.wp at h;generalize(jK a.eval o).run P w=r at*
    cases r with
    |ok x w'=>
     cases x<;>simp only[Oper.upon]at h<;>simp only[Oper.uponIn]
     case value u=>exact h
     case skip=>exact h
     case defer d=>exact h
     case enter f args=>exact⟨by simp[Fence.inRound,Fence.wide],CallsIn.inRound l (callsIn_wide.2 h)⟩
     case row row args=>exact⟨by simp[Fence.inRound,Fence.wide],λc cs _=>by
      obtain⟨v,k,r,s⟩:=h c cs;exact⟨v,k,r,stepsIn_wide.2 s⟩⟩
    |halt x w'=>cases x<;>simp only[Oper.upon]at h<;>simp only[Oper.uponIn]<;>exact h
   exact absurd j e
  rename_i b;simp only[b]at h;exact⟨λ_ _=>trivial,h⟩
theorem zE{l n:Nat}(b:¬LetsOut Q)(c:rt ops=true):∀(fuel:Nat) (d:Array Bool) (a:Act) (w:A),
 wpAny P md ops Q fuel d a w->wpAnyIn (Fence.wide.inRound l) n P md ops Q fuel d a w
 |0,_,_,_,h=>h
 |fuel+1,_,_,_,h=>⟨h.1,λi e=>Gw b c (jI (λf w' g=>zE b c fuel _ f w' g) (h.2 i e))⟩
def Closed(md:Region.Mode)(ops:Array jl)(a:Array Bool):Prop:=∀(j:Nat) b,ops[j]?=T b->a.getD j false=true->∀e∈b.after,Region.binds md e=true->a.getD e.on false=true
theorem F7{a:Array Bool}{i k:Nat}(h:a.getD k false=true):(a.setIfInBounds i true).getD k false=true:=by
 rw[mz]at h⊢;rw[Array.getElem?_setIfInBounds]
 split
 ·rename_i e
  subst e
  split
  ·rfl
  rename_i b;rw[qo Y]at h
  cases h
 exact h
theorem Closed.zero(n:Nat):Closed md ops (j6 n false):=λj a _ h=>by
 rw[mz,Array.getElem?_replicate]at h
 split at h<;>cases h
theorem Closed.set{a:Array Bool}{i:Nat}(h:Closed md ops a)(g:i∈Region.ready md ops a):Closed md ops (a.setIfInBounds i true):=by
 intro j k b l e he c;refine F7 ?_
 by_cases d:j=i
 ·subst d
  obtain⟨-,o,f,m⟩:=mem_ready.1 g;rw[b]at f
  cases f
  exact m e he c
 refine h j k b ?_ e he c
 rwa [mz,Array.getElem?_setIfInBounds_ne (Ne.symm d),<-mz]at l
def mP(md:Region.Mode)(ops:Array jl):Nat->Nat->Nat->Bool
 |0,_,_=>false
 |n+1,j,i=>match ops[j]? with|none=>false|some o=>o.after.any λe=>Region.binds md e&&(e.on==i||mP md ops n e.on i)
theorem Ey{a:Array Bool}(c:Closed md ops a){i:Nat}:∀(n j:Nat) b,ops[j]?=T b->(∀e∈b.after,Region.binds md e=true->a.getD e.on false=true)->mP md ops n j i=true->a.getD i false=true
 |0,_,_,_,_,h=>by cases h
 |n+1,j,b,d,f,h=>by
  rw[mP,d]at h;simp only[Array.any_eq_true',jG,qs,beq_iff_eq]at h;obtain⟨e,he,g,h⟩:=h;have k:=f e he g
  rcases h with h|h
  ·rwa [<-h]
  cases hk:ops[e.on]? with
  |none=>cases n<;>simp[mP,hk]at h
  |some ok=>exact Ey c n e.on ok hk (c e.on ok hk k) h
def fQ(P:jw)(md:Region.Mode)(ops:Array jl)(Q:jC->Act->A->Prop)(S:A->Prop)(f:Nat):Nat->Array Bool->Act->A->Prop
 |0,b,a,w=>Region.ready md ops b=[]/\Q .normal a w
 |fuel+1,b,a,w=>Closed md ops b->
  (Region.ready md ops b=[]->Q .normal a w)/\
  ∀i∈Region.ready md ops b,ju P ops Q i (λc w'=>(f<=i\/S w')/\fQ P md ops Q S f fuel (b.setIfInBounds i true) c w') a w
theorem ru{f:Nat}:∀(fuel:Nat) (b:Array Bool) (a:Act) (w:A),Closed md ops b->fQ P md ops Q S f fuel b a w->wpAny P md ops Q fuel b a w
 |0,_,_,_,_,h=>h
 |fuel+1,_,_,_,c,h=>⟨(h c).1,λi d=>jI (λe w' g=>ru fuel _ e w' (c.set d) g.2) ((h c).2 i d)⟩
def O8(P:jw)(r:Result Next)(v:ih)(w:A):Prop:=
 r=.ok (.value v) w\/∃f args,r=.ok (.enter f args) w/\jj P f args w λe w'=>e=jh v/\w'=w
def eS(P:jw)(ops:Array jl)(S:A->Prop)(o:jl)(v:ih)(a:Act):Prop:=
 (Region.wanted o (jT ops a.tmps)=true/\∀w,S w->O8 P ((jK a.eval o).run P w) v w)\/
 (Region.wanted o (jT ops a.tmps)=false/\v=jp)
theorem eS.wpOp{i:Nat}{o:jl}{v:ih}{a:Act}(d:ops[i]?=T o)(g:eS P ops S o v a)
 {K:Act->A->Prop} {w:A} (j:S w) (h:K (a.put o.dst v) w):ju P ops Q i K a w:=by
 unfold Go.wpOp;simp only[d]
 rcases g with⟨b,k⟩|⟨b,rfl⟩
 ·simp only[b,if_true]
  refine .inl ?_;unfold Oper.wp
  rcases k w j with c|⟨f,args,c,l⟩
  ·rw[c];exact h
  rw[c];simp only[Oper.upon];refine l.mono ?_;rintro e w' ⟨rfl,rfl⟩;exact h
 simp only[b,Bool.false_eq_true,if_false];exact h
theorem eS.of_same{o:jl}{v:ih}{a b:Act}(c:eS P ops S o v a)(he:jK b.eval o=jK a.eval o)
 (d:Region.wanted o (jT ops b.tmps)=Region.wanted o (jT ops a.tmps)):eS P ops S o v b:=by
 unfold eS at*;rw[he,d];exact c
theorem JG{j:Nat}{g:jl}(k:ops[j]?=T g){K:Act->A->Prop}{a:Act}{w:A}(h:ju P ops Q j K a w):
 ju P ops Q j (λc w'=>(∃d b,c=Act.put {a with defers:=d} g.dst b)/\K c w') a w:=by
 unfold ju at*;simp only[k]at*
 split
 ·rename_i i
  simp only[i,if_true]at h
  rcases h with h|h
  case inr=>exact .inr h
  refine .inl ?_;unfold Oper.wp at*;generalize(jK a.eval g).run P w=r at*
  cases r with
  |halt x w'=>cases x<;>exact h
  |ok n w'=>
   cases n<;>simp only[Oper.upon]at h⊢
   case value b=>exact⟨⟨a.defers,b,rfl⟩,h⟩
   case skip=>exact⟨⟨a.defers,jp,rfl⟩,h⟩
   case defer d=>exact⟨⟨d::a.defers,jp,rfl⟩,h⟩
   case enter f args=>
    refine Calls.mono h λe l he=>?_
    cases e with
    |returned b=>exact⟨⟨a.defers,b,rfl⟩,he⟩
    |panicked c=>exact he
    |outgrown=>exact he
   case row row args=>exact Rows.mono h λb l he=>⟨⟨a.defers,b,rfl⟩,he⟩
 rename_i i;simp only[i]at h;exact⟨⟨a.defers,jp,rfl⟩,h⟩
theorem Nt{j:Nat}{e f:jl}{v:ih}(g:ops[j]?=T f)(i:e.apart ops f=true)
 (k:∀cs b,e.op≠.select cs b) (m:∀cs b,f.op≠.select cs b)
 (n:∀c a w,Q (.panic c) (a.put e.dst v) w->Q (.panic c) a w) {K:Act->A->Prop} {a:Act} {w:A}
 (c:eS P ops S e v a) (h:ju P ops Q j K (a.put e.dst v) w):
 ju P ops Q j (λb w'=>eS P ops S e v b/\K (b.put e.dst v) w') a w:=by
 have o:YieldsIf P ops (λ_=>False) e v a:=c.imp (fun⟨h,_⟩=>⟨h,λ_ h=>h.elim⟩) id;obtain⟨_,_,l⟩:=Oper.apart_spec i;refine jI (λb w' h=>?_) (JG g (wpOp_putIf g i k m n o h));obtain⟨⟨d,b,rfl⟩,_,p⟩:=h;have q:eS P ops S e v {a with defers:=d}:=c.of_same rfl rfl;exact⟨q.of_same (execOp_put e k _ f.dst b l) (wanted_put e _ f.dst b l),p⟩
theorem tq{f i:Nat}{q:jl}{v:ih}(x:ops[i]?=T q)(z:∀(j:Nat) (o:jl) cs b,ops[j]?=T o->o.op≠.select cs b)
 (M:∀c a d v w,Q (.panic c) (Act.put a d v) w->Q (.panic c) a w):∀(fuel:Nat) (g:Array Bool) (a:Act) (w:A),
  (∀j l,ops[j]?=T l->j≠i->g.getD j true=false->(∀e∈l.after,Region.binds md e=true->e.on≠i)->q.apart ops l=true)->
  (∀(j:Nat) l,ops[j]?=T l->f<=j->j≠i->∃n,mP md ops n j i=true)->
  i∈Region.ready md ops g->eS P ops S q v a->S w->
  fQ P md ops Q S f fuel (g.setIfInBounds i true) (a.put q.dst v) w->fQ P md ops Q S f (fuel+1) g a w:=by
 intro fuel
 induction fuel with
 |zero=>
  intro g a w _ _ m t r H;refine λy=>⟨λh=>(by rw[h]at m;cases m),λj u=>?_⟩
  by_cases o:j=i
  ·rw[o];exact t.wpOp x r ⟨.inr r,H⟩
  have d:=ready_mono u o;rw[H.1]at d
  cases d
 |succ fuel R=>
  intro g a w B C m t r H;refine λy=>⟨λh=>(by rw[h]at m;cases m),λj u=>?_⟩
  by_cases o:j=i
  ·rw[o];exact t.wpOp x r ⟨.inr r,H⟩
  obtain⟨D,l,s,E⟩:=mem_ready.1 u;have U:∀e∈l.after,Region.binds md e=true->e.on≠i:=λe he V W=>by
   have d:=E e he V;have p:=(mem_ready.1 m).1;rw[W]at d
   rcases nn i g.size with k|k
   ·simp[k]at p d;rw[p]at d;cases d
   simp[qo k]at d
  have X:∀k ok,ops[k]?=T ok->k≠i->(g.setIfInBounds j true).getD k true=false->
   (∀e∈ok.after,Region.binds md e=true->e.on≠i)->q.apart ops ok=true:=λk ok hk aa F Q4=>by
   refine B k ok hk aa ?_ Q4
   by_cases K:j=k
   ·rw[<-K];exact D
   rw[getD_set_ne true K]at F;exact F
  have K:i∈Region.ready md ops (g.setIfInBounds j true):=ready_mono m (Ne.symm o);refine jI (λa' w' h3=>?_) (Nt s (B j l s o D U) (λcs b=>z i q cs b x) (λcs b=>z j l cs b s) (λc a w=>M c a _ _ w) t ((H (y.set m)).2 j (ready_mono u o)));obtain⟨aa,ad,h4⟩:=h3;have F:S w':=by
   rcases ad with c|c
   ·obtain⟨n,hn⟩:=C j l s c o
    have d:=Ey y n j l s E hn;have p:=(mem_ready.1 m).1;rw[mz]at p d
    cases hq:g[i]? with
    |none=>rw[hq]at d;cases d
    |some b=>rw[hq]at p d;simp at p d;rw[p]at d;cases d
   exact c
  refine⟨.inr F,R (g.setIfInBounds j true) a' w' X C K aa F ?_⟩;rw[q6 _ _ o];exact h4
theorem YieldsIf.q{o:jl}{v:ih}{a:Act}(h:YieldsIf P ops S o v a):eS P ops S o v a:=h.imp (fun⟨b,c⟩=>⟨b,λw d=>.inl (c w d)⟩) id
def yf(md:Region.Mode)(ops:Array jl)(f i:Nat):Bool:=
 (List.range ops.size).all λj=>decide (j<f)||j==i||mP md ops 4 j i
theorem Cj{f i:Nat}(h:yf md ops f i=true):∀(j:Nat) b,ops[j]?=T b->f<=j->j≠i->∃n,mP md ops n j i=true:=by
 intro j b c e d;have a:=q8.1 h j (q9.2 (jE.1 c).1);simp only[qs,decide_eq_true_eq,beq_iff_eq,d,or_false]at a
 rcases a with a|a
 ·omega
 exact⟨4,a⟩
theorem Bg(j:Nat)(a:jl)(b:ops[j]?=T a)(h:ops.size<=j):False:=by
 have:=(jE.1 b).1;omega
def gT(md:Region.Mode)(ops:Array jl)(f:Nat):List (Nat×Bool)->Array Bool->Bool
 |[],a=>Region.ready md ops a==[]
 |(i,true)::b,a=>Region.free md ops a i&&(Region.ready md ops a).contains i&&yf md ops f i&&gT md ops f b (a.setIfInBounds i true)
 |(i,false)::b,a=>Region.ready md ops a==[i]&&gT md ops f b (a.setIfInBounds i true)
def vu(f:Nat)(l:List (Nat×Bool)):Bool:=l.all λx=> !x.2&&decide (f<=x.1)
def fg(P:jw)(ops:Array jl)(Q:jC->Act->A->Prop)(S:A->Prop)(f:Nat):List (Nat×Bool)->Act->A->Prop
 |[],a,w=>Q .normal a w
 |(i,true)::b,a,w=>∃o v,ops[i]?=T o/\eS P ops S o v a/\fg P ops Q S f b (a.put o.dst v) w
 |(i,false)::b,a,w=>ju P ops Q i (λc w'=>(f<=i/\vu f b=true/\fg P ops Q S f b c w')\/(S w'/\(S w'->fg P ops Q S f b c w'))) a w
theorem rl{f:Nat}(g:Region.noSelect ops=true)(k:∀c a d v w,Q (.panic c) (Act.put a d v) w->Q (.panic c) a w):
 ∀(l:List (Nat×Bool)) (b:Array Bool) (a:Act) (w:A),gT md ops f l b=true->(vu f l=true\/S w)->fg P ops Q S f l a w->fQ P md ops Q S f l.length b a w
 |[],b,a,w,hk,_,h=>⟨by simpa [gT]using hk,h⟩
 |(i,true)::d,b,a,w,hk,e,⟨o,v,m,p,h⟩=>by
  have e:S w:=e.resolve_left (by simp[vu]);simp only[gT,jG]at hk;exact tq m (Region.noSelect_spec g) k d.length b a w (Region.free_spec m hk.1.1.1) (Cj hk.1.2) (by simpa using hk.1.1.2) p e (rl g k d _ _ _ hk.2 (.inr e) h)
 |(i,false)::d,b,a,w,hk,e,h=>by
  simp only[gT,jG,beq_iff_eq]at hk;refine λ_=>⟨λq=>(by rw[q]at hk;simp at hk),λj n=>?_⟩
  obtain rfl:j=i:=by rw[hk.1]at n;simpa using n
  refine jI (λr w' c=>?_) h
  rcases c with⟨r,s,t⟩|c
  ·exact⟨.inl r,rl g k d _ _ _ hk.2 (.inl s) t⟩
  exact⟨.inr c.1,rl g k d _ _ _ hk.2 (.inr c.1) (c.2 c.1)⟩
theorem vS{b:Nat}{a:Act}{w:A}(S:A->Prop)(f:Nat)(l:List (Nat×Bool))(e:P.follows .mixedOrders=true)(g:Region.noSelect ops=true)
 (hk:gT .any ops f l (j6 ops.size false)=true) (i:l.length=ops.size) (j:∀c a d v w,Q (.panic c) (Act.put a d v) w->Q (.panic c) a w)
 (c:S w.drew) (h:fg P ops Q S f l a w.drew):(Code.region b ops true).wp P Q a w:=
 wp_region_any e (ru _ _ _ _ (Closed.zero _) (by have:=rl g j l _ a _ hk (.inr c) h;rw[i]at this;exact this))
theorem tC{r n:Nat}{b:Nat}{a:Act}{w:A}(S:A->Prop)(f:Nat)(l:List (Nat×Bool))(e:P.follows .mixedOrders=true)(g:Region.noSelect ops=true)(i:rt ops=true)
 (hk:gT .any ops f l (j6 ops.size false)=true) (j:l.length=ops.size) (k:∀c a d v w,Q (.panic c) (Act.put a d v) w->Q (.panic c) a w) (c:¬LetsOut Q)
 (d:S w.drew) (h:fg P ops Q S f l a w.drew):(Code.region b ops true).wpIn (Fence.wide.inRound r) n P Q a w:=
 wpIn_region_any e (zE c i _ _ _ _ (ru _ _ _ _ (Closed.zero _) (by have:=rl g k l _ a _ hk (.inr d) h;rw[j]at this;exact this)))
theorem ij{b:Nat}{a:Act}{w:A}(S:A->Prop)(f:Nat)(l:List (Nat×Bool))(e:P.follows .mixedOrders=true)(g:Region.noSelect ops=true)
 (hk:gT .any ops f l (j6 ops.size false)=true) (i:l.length=ops.size) (j:∀c a d w,Q (.panic c) a w->Q (.panic c) d w)
 (k:S w.drew) (h:fg P ops Q S f l a w.drew):(Code.region b ops true).wp P Q a w:=
 vS S f l e g hk i (λc a d v w=>j c _ a w) k h
theorem Fg{r n:Nat}{b:Nat}{a:Act}{w:A}(S:A->Prop)(f:Nat)(l:List (Nat×Bool))(e:P.follows .mixedOrders=true)(g:Region.noSelect ops=true)(i:rt ops=true)
 (hk:gT .any ops f l (j6 ops.size false)=true) (j:l.length=ops.size) (k:∀c a d w,Q (.panic c) a w->Q (.panic c) d w) (m:¬LetsOut Q)
 (o:S w.drew) (h:fg P ops Q S f l a w.drew):(Code.region b ops true).wpIn (Fence.wide.inRound r) n P Q a w:=
 tC S f l e g i hk j (λc a d v w=>k c _ a w) m o h
theorem cT{f i:Nat}{o:jl}{v:ih}{b:List (Nat×Bool)}{a:Act}{w:A}(c:ops[i]?=T o)(d:Region.wanted o (jT ops a.tmps)=true)
 (e:∀w,S w->(jK a.eval o).run P w=.ok (.value v) w) (h:fg P ops Q S f b (a.put o.dst v) w):fg P ops Q S f ((i,true)::b) a w:=
 ⟨o,v,c,.inl ⟨d,λw g=>.inl (e w g)⟩,h⟩
theorem Iu{f i:Nat}{o:jl}{b:List (Nat×Bool)}{a:Act}{w:A}(c:ops[i]?=T o)(d:Region.wanted o (jT ops a.tmps)=false)
 (h:fg P ops Q S f b (a.put o.dst jp) w):fg P ops Q S f ((i,true)::b) a w:=
 ⟨o,jp,c,.inr ⟨d,rfl⟩,h⟩
theorem aR{f i:Nat}{o:jl}{c:List (Nat×Bool)}{a:Act}{w:A}(e:ops[i]?=T o)
 (h:∀b:Act->A->Prop,Shut (∀a w,S w->(S w->fg P ops Q S f c a w)->b a w)->if Region.wanted o (jT ops a.tmps)=true then Oper.wp P o a w b Q else b (a.put o.dst jp) w):
 fg P ops Q S f ((i,false)::c) a w:=
 wpOp_step e λb g=>h b (λa w d j=>g a w (.inr ⟨d,λ_=>j d⟩))
theorem gu{f:Nat}{o:jl}{a:Act}{w:A}(c:ops[f]?=T o)
 (h:∀b:Act->A->Prop,Shut (∀a w,Q .normal a w->b a w)->if Region.wanted o (jT ops a.tmps)=true then Oper.wp P o a w b Q else b (a.put o.dst jp) w):
 fg P ops Q S f [(f,false)] a w:=
 wpOp_step c λb d=>h b (λa w e=>d a w (.inl ⟨jn _,rfl,e⟩))
end
theorem ci{p q:Prop}(k:q)(h:q->p:=by intro k;refine cT (v:=?_) rfl (by rfl) (λW' hS=>?_) ?_;rotate_left;(go_simp;with_reducible rfl);(try simp only[Act.put,List.getElem_toArray,List.getElem_cons_succ,List.getElem_cons_zero,List.setIfInBounds_toArray,List.set_cons_zero,List.set_cons_succ]);exact k):p:=h k
theorem BI{p q:Prop}(k:q)(h:q->p:=by intro k;refine cT (v:=?_) rfl (by rfl) (λW' hS=>?_) ?_;rotate_left;(clear hS;go_simp;with_reducible rfl);(try simp only[Act.put,List.getElem_toArray,List.getElem_cons_succ,List.getElem_cons_zero,List.setIfInBounds_toArray,List.set_cons_zero,List.set_cons_succ]);exact k):p:=h k
theorem P2{p q:Prop}(k:q)(h:q->p:=by intro k;refine cT (v:=?_) rfl (by rfl) (λW' hS=>?_) ?_;rotate_left;(obtain⟨s0,s1⟩:=hS;go_simp;with_reducible rfl);(try simp only[Act.put,List.getElem_toArray,List.getElem_cons_succ,List.getElem_cons_zero,List.setIfInBounds_toArray,List.set_cons_zero,List.set_cons_succ]);exact k):p:=h k
theorem sZ{p q:Prop}(k:q)(h:q->p:=by intro k;refine cT (v:=?_) rfl (by rfl) (λW' hS=>?_) ?_;rotate_left;(obtain⟨s0,s1,s2⟩:=hS;go_simp;with_reducible rfl);(try simp only[Act.put,List.getElem_toArray,List.getElem_cons_succ,List.getElem_cons_zero,List.setIfInBounds_toArray,List.set_cons_zero,List.set_cons_succ]);exact k):p:=h k
theorem kt{p q:Prop}(k:q)(h:q->p:=by intro k;refine cT (v:=?_) rfl (by rfl) (λW' hS=>?_) ?_;rotate_left;(obtain⟨s0,s1,s2,s3⟩:=hS;go_simp;with_reducible rfl);(try simp only[Act.put,List.getElem_toArray,List.getElem_cons_succ,List.getElem_cons_zero,List.setIfInBounds_toArray,List.set_cons_zero,List.set_cons_succ]);exact k):p:=h k
theorem tF{p q:Prop}(k:q)(h:q->p:=by intro k;refine cT (v:=?_) rfl (by rfl) (λW' hS=>?_) ?_;rotate_left;(obtain⟨s0,s1,s2,s3,s4⟩:=hS;go_simp;with_reducible rfl);(try simp only[Act.put,List.getElem_toArray,List.getElem_cons_succ,List.getElem_cons_zero,List.setIfInBounds_toArray,List.set_cons_zero,List.set_cons_succ]);exact k):p:=h k
theorem PZ{p q:Prop}(k:q)(h:q->p:=by intro k;refine cT (v:=?_) rfl (by rfl) (λW' hS=>?_) ?_;rotate_left;(obtain⟨k0,k1,k2,k3⟩:=hS;go_simp;with_reducible rfl);(try simp only[Act.put,List.getElem_toArray,List.getElem_cons_succ,List.getElem_cons_zero,List.setIfInBounds_toArray,List.set_cons_zero,List.set_cons_succ]);exact k):p:=h k
theorem PV{p q:Prop}(k:q)(h:q->p:=by intro k;refine cT (v:=?_) rfl (by rfl) (λW' hS=>?_) ?_;rotate_left;(obtain⟨k0,k1,k2,k3,k4⟩:=hS;go_simp;with_reducible rfl);(try simp only[Act.put,List.getElem_toArray,List.getElem_cons_succ,List.getElem_cons_zero,List.setIfInBounds_toArray,List.set_cons_zero,List.set_cons_succ]);exact k):p:=h k
theorem P6{p q:Prop}(k:q)(h:q->p:=by intro k;refine cT (v:=?_) rfl (by rfl) (λW' hS=>?_) ?_;rotate_left;(obtain⟨k0,k1,k2,k3,k4,k5⟩:=hS;go_simp;with_reducible rfl);(try simp only[Act.put,List.getElem_toArray,List.getElem_cons_succ,List.getElem_cons_zero,List.setIfInBounds_toArray,List.set_cons_zero,List.set_cons_succ]);exact k):p:=h k
theorem zG{p q:Prop}(k:q)(h:q->p:=by intro k;refine cT (v:=?_) rfl (by rfl) (λW' hS=>?_) ?_;rotate_left;(have b0:=hS;clear hS;go_simp;with_reducible rfl);(try simp only[Act.put,List.getElem_toArray,List.getElem_cons_succ,List.getElem_cons_zero,List.setIfInBounds_toArray,List.set_cons_zero,List.set_cons_succ]);exact k):p:=h k
theorem P7{p q:Prop}(k:q)(h:q->p:=by intro k;refine cT (v:=?_) rfl (by rfl) (λW' hS=>?_) ?_;rotate_left;(have b0:=hS.1.1;have b1:=hS.1.2;clear hS;go_simp;with_reducible rfl);(try simp only[Act.put,List.getElem_toArray,List.getElem_cons_succ,List.getElem_cons_zero,List.setIfInBounds_toArray,List.set_cons_zero,List.set_cons_succ]);exact k):p:=h k
theorem PY{p q:Prop}(k:q)(h:q->p:=by intro k;refine cT (v:=?_) rfl (by rfl) (λW' hS=>?_) ?_;rotate_left;(have b0:=hS.1.1;clear hS;go_simp;with_reducible rfl);(try simp only[Act.put,List.getElem_toArray,List.getElem_cons_succ,List.getElem_cons_zero,List.setIfInBounds_toArray,List.set_cons_zero,List.set_cons_succ]);exact k):p:=h k
theorem oR{p q:Prop}(k:q)(h:q->p:=by intro k;refine Iu rfl (by rfl) ?_;(try simp only[Act.put,List.getElem_toArray,List.getElem_cons_succ,List.getElem_cons_zero,List.setIfInBounds_toArray,List.set_cons_zero,List.set_cons_succ]);exact k):p:=h k
end
section
open Go.RowKit Go.Shelf
attribute [local go_sem] Oper.semAt_some
def PN:Nat:=4611686018427377339
theorem ei:PN=4611686018427377339:=rfl
theorem JJ(a b:Nat)(f:a<PN)(g:b<PN)(w:A):
 jj ja 201 #[N ii a,N ii b] w λe w'=>∃c d:Nat,e=jh (jB #[N ii c,N ii d])/\c<4611686018427377339/\d<18446744073709551616/\jc (c*18446744073709551616+d=a*b)/\w=w':=by
 rw[ei]at f g;refine(zA a b Y Y w).mono ?_;rintro e w' ⟨rfl,rfl⟩;have h:a*b<=4611686018427377338*4611686018427377338:=Nat.mul_le_mul Y Y;refine⟨_,_,rfl,?_,ob _ L,O (by rw[jZ];exact Nat.div_add_mod _ _),rfl⟩;generalize a*b=m at h;omega
theorem Js(a b:Nat)(f:a<4611686018427377339)(d:b<18446744073709551616)(w:A):
 jj ja 202 #[N ii a,N ii b,N ii 4611686018427377339] w λe w'=>
  ∃(q:Int) (r:Nat),e=jh (jB #[N ii q,N ii r])/\jc (r=(a*18446744073709551616+b)%PN)/\jd w w w':=by
 rcases ki a with rfl|h
 ·refine(div64_0 b d w).mono ?_
  rintro e w' ⟨q,rfl,c⟩;exact⟨q,_,rfl,O (by rw[qt,jR,ei]),c⟩
 refine(div64_1 a b h f d w).mono ?_;rintro e w' ⟨q,rfl,c⟩;exact⟨q,_,rfl,O (by rw[ei]),c⟩
theorem yt(a b:Nat)(d:a<PN)(f:b<PN)(w:A):
 jj ja 145 #[N ii a,N ii b] w λe w'=>∃c:Nat,e=jh (N ii c)/\jc (c=a*b%PN)/\jd w w w':=by
 have g:=O (JJ a b d f);clear d f
 go_enter func145,ntmps145
 go_wp2_with fail
 refine(g _).mono ?_;rintro e m ⟨h,i,rfl,d,f,j,rfl⟩;have k:=O (Js h i d f);clear d f
 go_wp2_with fail
 refine(k _).mono ?_;rintro e n ⟨q,r,rfl,f,d⟩;have l:=O d;clear d
 go_wp2_with fail
 go_ret;exact⟨r,rfl,O (by rw[f,j]),l⟩
def gy(k:Nat):Nat->List Bool
 |0=>[]
 |n+1=>(k/2^n%2==1)::gy k n
def pwL(a:Nat)(l:List Bool):Nat:=l.foldl (λc b=>if b=true then c*c%PN*a%PN else c*c%PN) 1
theorem uY(a:Nat)(l:List Bool)(b:Bool):pwL a (l++[b])=if b=true then pwL a l*pwL a l%PN*a%PN else pwL a l*pwL a l%PN:=by
 simp[pwL]
theorem Dz(a:Nat):∀(l:List Bool) (c:Nat),c<PN->l.foldl (λc b=>if b=true then c*c%PN*a%PN else c*c%PN) c<PN
 |[],c,h=>h
 |b::r,c,h=>by
  rw[List.foldl_cons];refine Dz a r _ ?_
  split<;>exact ob _ (by rw[ei];decide)
theorem LZ(a:Nat)(l:List Bool):pwL a l<PN:=Dz a l 1 (by rw[ei];decide)
theorem NC(a m:Nat):a^m%PN*(a^m%PN)%PN=a^(2*m)%PN:=by
 rw[<-qu,<-qv,Nat.two_mul]
theorem yO(a k:Nat):∀n (l:List Bool) (m:Nat),pwL a l=a^m%PN->pwL a (l++gy k n)=a^(m*2^n+k%2^n)%PN
 |0,l,m,h=>by simp[gy,Nat.mod_one,h]
 |n+1,l,m,h=>by
  have hk:=Nat.mod_pow_succ (b:=2) (k:=n) (x:=k);have e:l++gy k (n+1)=(l++[(k/2^n%2==1)])++gy k n:=by simp[gy]
  rw[e]
  rcases ri (k/2^n)with c|d
  ·rw[yO a k n _ (2*m) (by rw[uY,c,h];simp[<-qv,Nat.two_mul])]
   rw[hk,c,pz,Nat.mul_zero,Nat.add_zero,jZ 2 m,qw,jZ 2]
  rw[yO a k n _ (2*m+1) (by
   rw[uY,d,h];simp only[beq_self_eq_true,if_true,NC];rw[pz,qu,Nat.mod_mod,<-qu])]
  rw[hk,d,pz,Nat.mul_one,Nat.add_mul,Nat.one_mul]
  congr 2
  rw[jZ 2 m,qw,jZ 2];omega
theorem tA(a k n:Nat)(hk:k<2^n):pwL a (gy k n)=a^k%PN:=by
 have h:=yO a k n [] 0 (by simp[pwL,ei]);rw[oi,qt,jR,jJ hk]at h;exact h
theorem GR(k:Int)(w:A):
 jj ja 186 #[N ii k] w λe w'=>e=jh (.func (.func 220) #[] #[jy (T ⟨w,0,ic⟩)])/\w'=w.alloc (jb #[N ii k] 219):=by
 go_enter func186,ntmps186
 go_wp2
 go_ret;exact⟨rfl,rfl⟩
theorem Gf(k n:Nat)(hk:k<18446744073709551616)(c:bitLen k=n)(V:n<=64)(b:Nat)(w:A)(t:jr w b 219 (N ii k)):
 dK ja 220 #[jy (T ⟨b,0,ic⟩)] (λm:Bool=>#[.bool m]) (·=b) 0 (λxs=>xs=gy k n) (λ_=>True) (λ_=>True) w:=by
 intro l u X W d f v g o;have x:jr W b 219 (N ii k):=(d.block b t.lt).trans t;have a:=O (rV k Y Y);rw[qx]at a;rw[c]at a;have y:=x.cell;refine(qX (n:=0)).1 ?_;refine callsIn_of_wp func220 rfl trivial ?_ rfl;simp only[ntmps220,jO,kl,qy,qz,qA,qB,qC,qD,qE,oi,jV]
 gi_wp2_with fail
 refine⟨trivial,rfl,(callsIn_wide.2 (a _)).mono ?_⟩;rintro e w' ⟨rfl,rfl⟩;have hN:=O c;clear c y
 gi_wp2_with fail
 gi_loopw [3] (λs wr=>W.heap.size<=wr.heap.size/\∃(c:List Bool) (j:Nat) (i:Int),s=N je i/\ -1<=i/\i<=63/\jc (i=(j:Int)-1)/\jc (c++gy k j=gy k n)/\u c (·=b) wr/\jr wr b 219 (N ii k))
  (λs wr=>(jm s+1).toNat)
 case atStart=>
  exact⟨jn _,[],n,_,rfl,by omega,by omega,O rfl,O rfl,o,x⟩
 obtain⟨E,c,j,i,rfl,aa,ad,s,z,p,q⟩:=hrel;have y:=q.cell
 by_cases B:0<=i
 ·obtain⟨m,rfl⟩:=rn B
  have F:decide ((0:Int)<=(m:Int))=true:=by simp
  obtain rfl:j=m+1:=aw s;have hm:m<=63:=Y;have r:bits .and .u64 ((k:Int)/2^m) 1=((k/2^m%2:Nat):Int):=by
   have e:(k:Int)/2^m=((k/2^m:Nat):Int):=by simp
   have h:=rv k (2^m);rw[e,show(1:Int)=((1:Nat):Int)from rfl,bits_and_u64_nat _ 1 Y L,Nat.and_one_is_mod]
  have H:(bits .and .u64 ((k:Int)/2^m) 1==1)=(k/2^m%2==1):=by
   rw[r]
   rcases ri (k/2^m)with h|h<;>rw[h]<;>rfl
  obtain⟨C,h⟩:=J ((k/2^m%2==1));rw[<-h]at H;have K:=O h;clear r h;obtain⟨fn,tmps,assign,body,M,D⟩:=g c C (·=b) wr p (by rintro _ rfl;exact q.lt) trivial;have HJ:jc (bj W.heap.size u):=f;clear f g o v d B a
  gi_wp2
  refine⟨rfl,D.mono ?_⟩;rintro e P (⟨rfl,Q,h,r⟩|⟨rfl,R,h,r⟩)
  ·have S:jr P b 219 (N ii k):=(r b rfl).trans q
   have U:=h.size;clear r h D M
   gi_wp2
   go_roundw
   case rel=>
    refine⟨j0 E U,c++[C],m,(m:Int)-1,rfl,by omega,by omega,O rfl,?_,Q,S⟩;exact O (by rw[<-z,K];simp[gy])
   case measure=>simp only[jm];omega
  gi_wp2
  refine mb (qY rfl _ _ _) rfl ?_;exact⟨⟨_,rfl⟩,.inr ⟨_,_,trivial,R⟩⟩
 have F:=ak (0<=i);have h:j=0:=aw s;clear g o f v d a
 gi_wp2
 refine bodyPost_end (qY rfl _ _ _) rfl ?_;have a:=z.out;rw[h,gy,sg]at a;rw[a]at p;exact⟨⟨_,rfl⟩,.inl ⟨_,p⟩⟩
end
section
open Go.RowKit Go.Shelf
attribute [local go_sem] Oper.semAt_some
theorem Cq{n:Nat}{a B:A}(h:jd a a B)(b:n<=a.heap.size):kn n a B:=⟨h.size,λk o _ hk _=>(h.block k (jE.1 hk).1).trans hk⟩
theorem A4(a k:Nat)(ha:a<PN)(hk:k<18446744073709551616)(w:A):
 jj ja 137 #[N ii a,N ii k] w λe w'=>∃c:Nat,e=jh (N ii c)/\jc (c=a^k%PN)/\jd w w w':=by
 have M:bitLen k<=64:=by
  by_cases b:k=0
  ·subst b;decide
  have h:=(bitLen_spec k).2 b
  rcases nn 64 (bitLen k)with d|d
  ·have f:2^64<=2^(bitLen k-1):=sh L Y
   omega
  exact d
 obtain⟨n,z⟩:∃n,bitLen k=n:=⟨_,rfl⟩;rw[z]at M;have HP:=O (tA a k n (by rw[<-z];exact(bitLen_spec k).1));have HA:=O ha;refine(qX (n:=0)).1 ?_;refine xf func137 rfl trivial ?_ rfl;simp only[ntmps137,jO,kl,qy,qz,qA,qB,qC,qD,qE,oi,jV]
 gi_wp2_with fail
 refine⟨trivial,rfl,(callsIn_wide.2 (GR _ _)).mono ?_⟩;rintro e w' ⟨rfl,rfl⟩
 gi_wp2_with fail
 obtain⟨d,b⟩:=J (((w.alloc (jb #[N ii a] 219)).alloc (jb #[N ii 1] 219)).alloc (jb #[N ii k] 219));have bA:jr d w.heap.size 219 (N ii a):=by rw[b];exact((Boxed.new w _ _).alloc _).alloc _
 have bC:jr d (w.heap.size+1) 219 (N ii (1:Nat)):=by
  have:=Boxed.new (w.alloc (jb #[N ii a] 219)) 219 (N ii (1:Nat));rw[jU]at this;rw[b];exact this.alloc _
 have P:jr d (w.heap.size+1+1) 219 (N ii k):=by
  have:=Boxed.new ((w.alloc (jb #[N ii a] 219)).alloc (jb #[N ii 1] 219)) 219 (N ii k);rw[jU,jU]at this;rw[b];exact this
 have bB:jd w w d:=by rw[b];exact(((jz _ w).alloc (jn _) _).alloc ar _).alloc (by simp;omega) _
 have bb:w.heap.size+3<=d.heap.size:=by rw[b];simp
 rw[<-b];clear b;refine nO (n:=0) (gf:=220) (lb:=#[jy (T ⟨w.heap.size+1+1,0,ic⟩)]) rfl (enters_of func220 ae rfl)
  (Gf k n hk z M (w.heap.size+1+1) d P) (km _) (λ_=>rfl) (by rintro k rfl;exact P.lt)
  (λf Ψ W=>(jr W (w.heap.size+1) 219 (N ii (pwL a f:Nat))/\¬Ψ (w.heap.size+1))/\(jr W w.heap.size 219 (N ii a)/\¬Ψ w.heap.size)/\(jd w w W/\∀k,Ψ k->w.heap.size<=k))
  (λ_ _ _ _=>False)
  ((gM d.heap.size (w.heap.size+1) 219 (λf=>I .u64 (pwL a f:Nat))).and ((gM _ _ _ (λ_=>_)).and (lq _ _ w (jn _) Y)))
  (λ_=>eZ _ _)
  ⟨⟨bC,by omega⟩,⟨bA,by omega⟩,bB,by rintro k rfl;omega⟩
  (λx Q _ _=>Q={tmps:=#[N ii a,N ii k,jy (T ⟨w,0,ic⟩),jp,N ii 0,jy (T ⟨w.heap.size+1,0,ic⟩),.bool x,N ii k,
   .func (.func 220) #[] #[jy (T ⟨w.heap.size+1+1,0,ic⟩)],.bool x,jp,jp,jp,jp,jp,jp,jp,jp],defers:=[]}) (eZ _ _)
  ?assign ?body ?done ?stop
 case assign=>
  intro l f x Ψ q K b _ B
  gi_wp2
  exact B _ _ (jz _ _) b rfl
 case body=>
  rintro l f x Ψ Q q ⟨⟨g,r⟩,⟨K,R⟩,s,C⟩ rfl _ S U WR;have b:=LZ a f;have i:=uY a f x;generalize pwL a f=c at g b i;have hc:=g.cell;have bc:=g.frozen;have m:=O (yt c c b b);have V:=O i;have X:=O s;clear i b s
  gi_wp2_with fail
  refine⟨trivial,rfl,(CallsIn.inRound l (callsIn_wide.2 (m _))).mono ?_⟩;rintro e i ⟨b,rfl,D,j⟩;have E:jr i (w.heap.size+1) 219 (N ii c):=(j.block _ g.lt).trans g;have aa:jr i w.heap.size 219 (N ii a):=(j.block _ K.lt).trans K;have u:jr (i.setCell ⟨w.heap.size+1,0,ic⟩ (N ii b)) (w.heap.size+1) 219 (N ii b):=E.set _;have v:jr (i.setCell ⟨w.heap.size+1,0,ic⟩ (N ii b)) w.heap.size 219 (N ii a):=aa.other Y _;have o:kn d.heap.size q i:=Cq j U;have t:=O (o.trans ((KeepsOthers.setCell i ⟨w.heap.size+1,0,ic⟩ (N ii b)).from _));have y:=O (qF (j.mono (show w.heap.size<=q.heap.size by omega)) (p:=⟨w.heap.size+1,0,ic⟩) ar (N ii b));have F:jc (∀k,Ψ k->(i.setCell ⟨w.heap.size+1,0,ic⟩ (N ii b)).heap[k]?=q.heap[k]?):=λk hk=>by
   rw[j4 _ _ _ _ (by rintro rfl;exact r hk)];exact j.block _ (S k hk)
  have Sz:=E.cell;have ad:=E.frozen;clear o j m
  cases x
  ·gi_wp2
   refine⟨⟨t,y.mono (km _),F⟩,⟨?_,r⟩,⟨v,R⟩,X.trans y,C⟩;have e:(if false=true then c*c%PN*a%PN else c*c%PN)=b:=by rw[if_neg L,D]
   rw[V,e];exact u
  have al:b<PN:=by rw[D];exact ob _ (by rw[ei];decide)
  have Ww:=O (yt b a al HA);obtain⟨A2,j⟩:=J (i.setCell ⟨w.heap.size+1,0,ic⟩ (N ii b));have au:=O j;have m:=aa.cell;clear j
  gi_wp2_with fail
  rw[<-au]at u v t y F⊢;clear Sz ad m;refine⟨trivial,rfl,(CallsIn.inRound l (callsIn_wide.2 (Ww _))).mono ?_⟩;rintro e m ⟨j,rfl,QE,o⟩;have H:jr m (w.heap.size+1) 219 (N ii b):=(o.block _ u.lt).trans u;have a1:jr m w.heap.size 219 (N ii a):=(o.block _ v.lt).trans v;have a2:jr (m.setCell ⟨w.heap.size+1,0,ic⟩ (N ii j)) (w.heap.size+1) 219 (N ii j):=H.set _;have a3:jr (m.setCell ⟨w.heap.size+1,0,ic⟩ (N ii j)) w.heap.size 219 (N ii a):=a1.other Y _;have a4:d.heap.size<=A2.heap.size:=j0 U t.size;have a5:=O ((t.trans (Cq o a4)).trans ((KeepsOthers.setCell m ⟨w.heap.size+1,0,ic⟩ (N ii j)).from _));have Qt:=O (y.trans (qF (o.mono (show w.heap.size<=A2.heap.size by omega)) (p:=⟨w.heap.size+1,0,ic⟩) ar (N ii j)));have ba:jc (∀k,Ψ k->(m.setCell ⟨w.heap.size+1,0,ic⟩ (N ii j)).heap[k]?=q.heap[k]?):=λk hk=>by
   rw[j4 _ _ _ _ (by rintro rfl;exact r hk)];exact(o.block _ (qG (S k hk) t.size)).trans (F k hk)
  have Sz:=H.cell;have ad:=H.frozen;clear o Ww
  gi_wp2
  refine⟨⟨a5,Qt.mono (km _),ba⟩,⟨?_,r⟩,⟨a3,R⟩,X.trans Qt,C⟩;have e:∀(p:Prop) [Decidable p],p->(if p then c*c%PN*a%PN else c*c%PN)=j:=λp _ h=>by rw[if_pos h,QE,D]
  rw[V,e _ (by trivial)];exact a2
 case done=>
  rintro D xs Ψ W i rfl ⟨⟨g,r⟩,-,s,C⟩ B;rw[HP]at g;have hc:=g.cell;have b:=O s;clear s
  gi_wp2
  refine⟨by simp,.inl ⟨_,_,rfl,run_takeDeferred B,?_⟩⟩;exact⟨_,results_tmp rfl _ _ _,_,rfl,O rfl,b.trans (ie Y)⟩
 intro D c f Ψ W _ _ h;exact h.elim
end
def QN:Nat:=2305843009213688669
def aM(n:Int):Prop:=1<=n/\n<4611686018427377339/\n.toNat^QN%PN=1
noncomputable def bS(n:Int):Int:=by classical exact if aM n then 0 else 40
theorem fw{n:Int}(h:aM n):bS n=0:=by unfold bS;rw[if_pos h]
theorem iw{n:Int}(h:¬aM n):bS n=40:=by unfold bS;rw[if_neg h]
theorem I0(a:Nat)(b:a<PN)(w:A):
 jj ja 137 #[N ii a,N ii 2305843009213688669] w λe w'=>∃c:Nat,e=jh (N ii c)/\jc (c=a^QN%PN)/\jd w w w':=by
 have h:=A4 a QN b (by unfold QN;decide) w;rw[show((QN:Nat):Int)=2305843009213688669 from rfl]at h;exact h
theorem fs(n:Int)(w:A):
 jj ja 68 #[N je n] w λe w'=>e=jh (N je (bS n))/\jd w w w':=by
 by_cases q:n<1
 ·have i:=aj (n<1)
  have b:=O (iw (n:=n) (λh=>by unfold aM at h;omega))
  go_enter func68,ntmps68
  go_wp2
  go_ret;exact⟨by rw[b];rfl,jz _ _⟩
 have i:=ak (n<1)
 by_cases r:4611686018427377339<=n
 ·have j:=aj (4611686018427377339<=n)
  have b:=O (iw (n:=n) (λh=>by unfold aM at h;omega))
  go_enter func68,ntmps68
  go_wp2
  go_ret;exact⟨by rw[b];rfl,jz _ _⟩
 have j:=ak (4611686018427377339<=n);obtain⟨m,rfl⟩:=rn (show 0<=n by omega);have k:=O (I0 m (by rw[ei];omega));have b:jc (m^QN%PN=1->bS m=0):=O λh=>fw ⟨by omega,by omega,by rw[qx];exact h⟩
 have l:jc (m^QN%PN≠1->bS m=40):=O λh=>iw (λg=>h (by have:=g.2.2;rwa [qx]at this))
 go_enter func68,ntmps68
 go_wp2_with fail
 refine(k _).mono ?_;rintro e s ⟨c,rfl,f,a⟩;have g:=O a;clear a
 by_cases a:c=1
 ·have o:((c:Int)==1)=true:=by rw[a];rfl
  have p:((c:Int)!=1)=false:=by rw[a];rfl
  have d:=O a;clear a
  go_wp2
  go_ret;exact⟨by rw[b.out (by rw[<-f,d])];rfl,g⟩
 have o:((c:Int)==1)=false:=by simpa using λh=>a Y
 have p:((c:Int)!=1)=true:=by simpa using λh=>a Y
 have d:=O a;clear a
 go_wp2
 go_ret;exact⟨by rw[l.out (by rw[<-f];exact d)];rfl,g⟩
section
section
variable {P:jw} {ops:Array jl} {Q:jC->Act->A->Prop} {md:Region.Mode} {S:A->Prop}
inductive Sch where
 |done:Sch
 |take (i:Nat) (r:Sch):Sch
 |one (i:Nat) (r:Sch):Sch
 |two (i j:Nat) (x y:Sch):Sch
 |float (i:Nat) (ks:List Nat) (r:Sch):Sch
def Sch.len:Sch->Nat
 | .done=>0
 | .take _ r=>r.len+1
 | .one _ r=>r.len+1
 | .two _ _ x y=>max x.len y.len+1
 | .float _ a r=>a.length+r.len+1
def uv(ops:Array jl)(i k:Nat):Bool:=
 match ops[i]?,ops[k]? with
 |some a,T ok=>a.apart ops ok
 |_,_=>false
def tU(md:Region.Mode)(ops:Array jl)(i:Nat)(r:Array Bool->Bool):List Nat->Array Bool->Bool
 |[],a=>r a
 |k::b,a=>Region.ready md ops a==[k]&&uv ops i k&&tU md ops i r b (a.setIfInBounds k true)
def pC(md:Region.Mode)(ops:Array jl)(i:Nat)(r:Array Bool->Bool):List Nat->Array Bool->Bool
 |[],a=>Region.ready md ops a==[i]&&r (a.setIfInBounds i true)
 |k::b,a=>(Region.ready md ops a==[i,k]||Region.ready md ops a==[k,i])&&pC md ops i r b (a.setIfInBounds k true)&&tU md ops i r (k::b) (a.setIfInBounds i true)
def fH(md:Region.Mode)(ops:Array jl):Sch->Array Bool->Bool
 | .done,a=>Region.ready md ops a==[]
 | .take i r,a=>Region.free md ops a i&&(Region.ready md ops a).contains i&&fH md ops r (a.setIfInBounds i true)
 | .one i r,a=>Region.ready md ops a==[i]&&fH md ops r (a.setIfInBounds i true)
 | .two i j x y,a=>Region.ready md ops a==[i,j]&&fH md ops x (a.setIfInBounds i true)&&fH md ops y (a.setIfInBounds j true)
 | .float i b r,a=>pC md ops i (fH md ops r) b a
def Sch.tail(f:Nat):Sch->Bool
 | .done=>true
 | .one i r=>decide (f<=i)&&r.tail f
 |_=>false
def Sch.waits(md:Region.Mode)(ops:Array jl)(f:Nat):Sch->Bool
 | .done=>true
 | .take i r=>yf md ops f i&&r.waits md ops f
 | .one _ r=>r.waits md ops f
 | .two _ _ x y=>x.waits md ops f&&y.waits md ops f
 | .float _ _ r=>r.waits md ops f
def iy(P:jw)(ops:Array jl)(Q:jC->Act->A->Prop)(S:A->Prop)(f:Nat):Sch->Act->A->Prop
 | .done,a,w=>Q .normal a w
 | .take i r,a,w=>∃o v,ops[i]?=T o/\eS P ops S o v a/\iy P ops Q S f r (a.put o.dst v) w
 | .one i r,a,w=>ju P ops Q i (λb w'=>(f<=i/\r.tail f=true/\iy P ops Q S f r b w')\/(S w'/\(S w'->iy P ops Q S f r b w'))) a w
 | .two i j x y,a,w=>ju P ops Q i (λb w'=>(f<=i/\x.tail f=true/\iy P ops Q S f x b w')\/(S w'/\(S w'->iy P ops Q S f x b w'))) a w/\ju P ops Q j (λb w'=>(f<=j/\y.tail f=true/\iy P ops Q S f y b w')\/(S w'/\(S w'->iy P ops Q S f y b w'))) a w
 | .float i e r,a,w=>∃(o:jl) (c:Nat->Act->A->Option ih->Prop),ops[i]?=T o/\c 0 a w ic/\(∀j a w d,c j a w d->S w)/\
  (∀(j k:Nat),e[j]?=T k->∀a w d,c j a w d->ju P ops Q k (λb w'=>c (j+1) b w' d) a w)/\
  (∀j,j<=e.length->∀a w,c j a w ic->ju P ops Q i (λb w'=>∃v,b=a.put o.dst v/\c j a w' (T v)) a w)/\
  (∀a w v,c e.length a w (T v)->iy P ops Q S f r (a.put o.dst v) w)
def dF(P:jw)(ops:Array jl)(Q:jC->Act->A->Prop)(S:A->Prop):Sch->Act->A->Prop
 | .done,a,w=>Q .normal a w
 | .take i r,a,w=>∃o v,ops[i]?=T o/\eS P ops S o v a/\dF P ops Q S r (a.put o.dst v) w
 | .one i r,a,w=>ju P ops Q i (λb w'=>S w'/\(S w'->dF P ops Q S r b w')) a w
 | .two i j x y,a,w=>ju P ops Q i (λb w'=>S w'/\(S w'->dF P ops Q S x b w')) a w/\ju P ops Q j (λb w'=>S w'/\(S w'->dF P ops Q S y b w')) a w
 | .float i e r,a,w=>∃(o:jl) (c:Nat->Act->A->Option ih->Prop),ops[i]?=T o/\c 0 a w ic/\(∀j a w d,c j a w d->S w)/\
  (∀(j k:Nat),e[j]?=T k->∀a w d,c j a w d->ju P ops Q k (λb w'=>c (j+1) b w' d) a w)/\
  (∀j,j<=e.length->∀a w,c j a w ic->ju P ops Q i (λb w'=>∃v,b=a.put o.dst v/\c j a w' (T v)) a w)/\
  (∀a w v,c e.length a w (T v)->dF P ops Q S r (a.put o.dst v) w)
theorem dF.toF{f:Nat}:∀(t:Sch) (a:Act) (w:A),dF P ops Q S t a w->iy P ops Q S f t a w
 | .done,_,_,h=>h
 | .take i r,a,w,⟨o,v,c,d,e⟩=>⟨o,v,c,d,toF r _ _ e⟩
 | .one i r,a,w,h=>jI (λg w' h=>.inr ⟨h.1,λb=>toF r _ _ (h.2 b)⟩) h
 | .two i j x y,a,w,h=>⟨jI (λg w' h=>.inr ⟨h.1,λb=>toF x _ _ (h.2 b)⟩) h.1,jI (λg w' h=>.inr ⟨h.1,λb=>toF y _ _ (h.2 b)⟩) h.2⟩
 | .float i m r,a,w,⟨o,b,c,d,e,g,k,l⟩=>⟨o,b,c,d,e,g,k,λa w v h=>toF r _ _ (l a w v h)⟩
theorem JY{j:Nat}{i g:jl}{v:ih}(s:ops[j]?=T g)(t:i.apart ops g=true)(p:∀cs b,g.op≠.select cs b)
 (q:∀c a e w,Q (.panic c) a w->Q (.panic c) e w) {K:Act->A->Prop} {a:Act} {w:A} (h:ju P ops Q j K a w):
 ju P ops Q j (λk w'=>∃e,k=e.put i.dst v/\K e w') (a.put i.dst v) w:=by
 obtain⟨m,k,z⟩:=Oper.apart_spec t;unfold ju at*;simp only[s]at*;rw[wanted_put g a i.dst v m]
 split
 ·rename_i o
  simp only[o,if_true]at h
  rcases h with h|⟨u,y⟩
  case inr=>exact .inr ⟨by unfold Oper.asks at*;rw[execOp_put g p a i.dst v m];exact u,y⟩
  refine .inl ?_;unfold Oper.wp at*;rw[execOp_put g p a i.dst v m];generalize(jK a.eval g).run P w=r at*
  cases r with
  |ok n w'=>
   cases n<;>simp only[Oper.upon]at h⊢
   case value l=>exact⟨_,Act.put_comm a v l k,h⟩
   case skip=>exact⟨_,Act.put_comm a v jp k,h⟩
   case defer d=>
    exact⟨_,(congrArg (λb=>Act.put b g.dst jp) (Act.put_defers a i.dst v d)).trans (Act.put_comm _ v jp k),h⟩
   case enter f args=>
    refine Calls.mono h λe b he=>?_
    cases e with
    |returned l=>exact⟨_,Act.put_comm a v l k,he⟩
    |panicked c=>exact q _ _ _ _ he
    |outgrown=>exact he
   case row row args=>exact Rows.mono h λl b he=>⟨_,Act.put_comm a v l k,he⟩
  |halt x w'=>
   cases x<;>simp only[Oper.upon]at h⊢
   case panic l=>exact q _ _ _ _ h
 rename_i o;simp only[o]at h;exact⟨_,Act.put_comm a v jp k,h⟩
theorem Lo{i k:Nat}{a:jl}(b:ops[i]?=T a)(h:uv ops i k=true):∃ok,ops[k]?=T ok/\a.apart ops ok=true:=by
 unfold uv at h;rw[b]at h
 cases hk:ops[k]? with
 |none=>rw[hk]at h;cases h
 |some ok=>rw[hk]at h;exact⟨ok,rfl,h⟩
theorem A9(t:Region.noSelect ops=true)(u:∀c a g w,Q (.panic c) a w->Q (.panic c) g w){f i:Nat}{o:jl}(y:ops[i]?=T o){r:Array Bool->Bool}{n z:Nat}{l:Nat->Act->A->Option ih->Prop}
 (B:∀j a w d,l j a w d->S w) (C:∀fuel c a w v,z<=fuel->r c=true->l n a w (T v)->fQ P md ops Q S f fuel c (a.put o.dst v) w):
 ∀(e:List Nat) (j fuel:Nat) (c:Array Bool) (a:Act) (w:A) (v:ih),e.length+z<=fuel->tU md ops i r e c=true->j+e.length=n->
  (∀(m k:Nat),e[m]?=T k->∀a w d,l (j+m) a w d->ju P ops Q k (λg w'=>l (j+m+1) g w' d) a w)->l j a w (T v)->fQ P md ops Q S f fuel c (a.put o.dst v) w
 |[],j,fuel,c,a,w,v,p,hk,q,_,s=>by
  obtain rfl:j=n:=by simpa using q
  exact C _ _ _ _ _ (by simpa using p) hk s
 |k::e,j,fuel,c,a,w,v,p,hk,q,D,s=>by
  cases fuel with
  |zero=>simp at p
  |succ fuel=>
   simp only[tU,jG,beq_iff_eq]at hk;obtain⟨ok,E,H⟩:=Lo y hk.1.2;refine λ_=>⟨λK=>(by rw[K]at hk;simp at hk),λx F=>?_⟩
   obtain rfl:x=k:=by rw[hk.1.1]at F;simpa using F
   refine jI (λb w' M=>?_) (JY (v:=v) E H (λcs b=>Region.noSelect_spec t x ok cs b E) u (D 0 x ar a w (T v) s));obtain⟨g,rfl,b⟩:=M;refine⟨.inr (B _ _ _ _ b),A9 t u y B C e (j+1) fuel _ g w' v (by simp at p;omega) hk.2 (by simp at q;omega) (λm k R a w d h=>?_) b⟩;have:=D (m+1) k (by simpa using R) a w d (by rw[show j+(m+1)=j+1+m by omega];exact h);rw[show j+(m+1)=j+1+m by omega]at this;exact this
theorem zw(E:Region.noSelect ops=true)(F:∀c a d w,Q (.panic c) a w->Q (.panic c) d w){f i:Nat}{o:jl}(H:ops[i]?=T o){r:Array Bool->Bool}{n K:Nat}{c:Nat->Act->A->Option ih->Prop}
 (s:∀j a w l,c j a w l->S w) (y:∀fuel e a w v,K<=fuel->r e=true->c n a w (T v)->fQ P md ops Q S f fuel e (a.put o.dst v) w)
 (z:∀j,j<=n->∀a w,c j a w ic->ju P ops Q i (λd w'=>∃v,d=a.put o.dst v/\c j a w' (T v)) a w):
 ∀(g:List Nat) (j fuel:Nat) (e:Array Bool) (a:Act) (w:A),g.length+K+1<=fuel->pC md ops i r g e=true->j+g.length=n->
  (∀(m k:Nat),g[m]?=T k->∀a w l,c (j+m) a w l->ju P ops Q k (λd w'=>c (j+m+1) d w' l) a w)->c j a w ic->fQ P md ops Q S f fuel e a w
 |[],j,fuel,e,a,w,p,hk,t,_,u=>by
  obtain rfl:j=n:=by simpa using t
  cases fuel with
  |zero=>simp at p
  |succ fuel=>
   simp only[pC,jG,beq_iff_eq]at hk;refine λ_=>⟨λB=>(by rw[B]at hk;simp at hk),λx b=>?_⟩
   obtain rfl:x=i:=by rw[hk.1]at b;simpa using b
   refine jI (λM w' q=>?_) (z j (jn _) a w u);obtain⟨v,rfl,h⟩:=q;exact⟨.inr (s _ _ _ _ h),y _ _ _ _ _ (by simp at p;omega) hk.2 h⟩
 |k::g,j,fuel,e,a,w,p,hk,t,C,u=>by
  cases fuel with
  |zero=>simp at p
  |succ fuel=>
   simp only[pC,jG,qs,beq_iff_eq]at hk;refine λ_=>⟨λB=>(by rw[B]at hk;simp at hk),λx b=>?_⟩
   have R:x=i\/x=k:=by
    rcases hk.1.1 with D|D
    ·rw[D]at b;simpa using b
    rw[D]at b;simp at b;exact b.symm
   rcases R with rfl|rfl
   ·refine jI (λM w' q=>?_) (z j Y a w u)
    obtain⟨v,rfl,h⟩:=q;exact⟨.inr (s _ _ _ _ h),A9 E F H s y (k::g) j fuel _ a w' v (by simp at p⊢;omega) hk.2 t C h⟩
   refine jI (λd w' q=>?_) (C 0 x ar a w ic u);refine⟨.inr (s _ _ _ _ q),zw E F H s y z g (j+1) fuel _ d w' (by simp at p;omega) hk.1.2 (by simp at t;omega) (λm k v a w l h=>?_) q⟩;have:=C (m+1) k (by simpa using v) a w l (by rw[show j+(m+1)=j+1+m by omega];exact h);rw[show j+(m+1)=j+1+m by omega]at this;exact this
theorem iH{f:Nat}(p:Region.noSelect ops=true)(q:∀c a z w,Q (.panic c) a w->Q (.panic c) z w):
 ∀(t:Sch) (fuel:Nat) (l:Array Bool) (a:Act) (w:A),t.len<=fuel->fH md ops t l=true->t.waits md ops f=true->(t.tail f=true\/S w)->iy P ops Q S f t a w->fQ P md ops Q S f fuel l a w
 | .done,fuel,l,a,w,_,hk,_,_,h=>by
  have b:Region.ready md ops l=[]:=by simpa [fH]using hk
  cases fuel with
  |zero=>exact⟨b,h⟩
  |succ n=>exact λ_=>⟨λ_=>h,λi d=>by rw[b]at d;cases d⟩
 | .take i r,fuel,l,a,w,e,hk,g,s,⟨o,v,B,D,h⟩=>by
  have s:S w:=s.resolve_left (by simp[Sch.tail]);simp only[Sch.waits,jG]at g
  cases fuel with
  |zero=>simp[Sch.len]at e
  |succ n=>
   simp only[fH,jG]at hk;refine tq B (Region.noSelect_spec p) (λc a d v w=>q c _ a w) n l a w (Region.free_spec B hk.1.1) (Cj g.1) (by simpa using hk.1.2) D s (iH p q r n _ _ _ (by simp[Sch.len]at e;omega) hk.2 g.2 (.inr s) h)
 | .one i r,fuel,l,a,w,e,hk,g,s,h=>by
  cases fuel with
  |zero=>simp[Sch.len]at e
  |succ n=>
   simp only[fH,jG,beq_iff_eq]at hk;refine λ_=>⟨λC=>(by rw[C]at hk;simp at hk),λj c=>?_⟩
   obtain rfl:j=i:=by rw[hk.1]at c;simpa using c
   refine jI (λz w' b=>?_) h
   rcases b with⟨d,m,u⟩|b
   ·exact⟨.inl d,iH p q r n _ _ _ (by simp[Sch.len]at e;omega) hk.2 g (.inl m) u⟩
   exact⟨.inr b.1,iH p q r n _ _ _ (by simp[Sch.len]at e;omega) hk.2 g (.inr b.1) (b.2 b.1)⟩
 | .two i k x y,fuel,l,a,w,e,hk,g,s,h=>by
  simp only[Sch.waits,jG]at g
  cases fuel with
  |zero=>simp[Sch.len]at e
  |succ n=>
   simp only[fH,jG,beq_iff_eq]at hk;refine λ_=>⟨λC=>(by rw[C]at hk;simp at hk),λj c=>?_⟩
   rw[hk.1.1]at c;have E:j=i\/j=k:=by simpa using c
   rcases E with rfl|rfl
   ·refine jI (λz w' b=>?_) h.1
    rcases b with⟨d,m,u⟩|b
    ·exact⟨.inl d,iH p q x n _ _ _ (by simp[Sch.len]at e;omega) hk.1.2 g.1 (.inl m) u⟩
    exact⟨.inr b.1,iH p q x n _ _ _ (by simp[Sch.len]at e;omega) hk.1.2 g.1 (.inr b.1) (b.2 b.1)⟩
   refine jI (λz w' b=>?_) h.2
   rcases b with⟨d,m,u⟩|b
   ·exact⟨.inl d,iH p q y n _ _ _ (by simp[Sch.len]at e;omega) hk.2 g.2 (.inl m) u⟩
   exact⟨.inr b.1,iH p q y n _ _ _ (by simp[Sch.len]at e;omega) hk.2 g.2 (.inr b.1) (b.2 b.1)⟩
 | .float i c r,fuel,l,a,w,e,hk,g,s,⟨o,H,B,b,d,j,u,z⟩=>by
  have C:c.length+r.len+1<=fuel:=e;exact zw (n:=c.length) p q B d (λfuel l a w v e hk b=>iH p q r fuel l _ _ e hk g (.inr (d _ _ _ _ b)) (z _ _ _ b)) u c 0 fuel l a w C hk Y (λm k E a w F h=>by rw[jR]at h⊢;exact j m k E a w F h) b
theorem FR{b:Nat}{a:Act}{w:A}(S:A->Prop)(f:Nat)(t:Sch)(d:P.follows .mixedOrders=true)(e:Region.noSelect ops=true)
 (hk:fH .any ops t (j6 ops.size false)=true) (g:t.waits .any ops f=true) (i:t.len<=ops.size) (j:∀c a h w,Q (.panic c) a w->Q (.panic c) h w)
 (c:S w.drew) (h:iy P ops Q S f t a w.drew):(Code.region b ops true).wp P Q a w:=
 wp_region_any d (ru _ _ _ _ (Closed.zero _) (iH e j t _ _ _ _ i hk g (.inr c) h))
theorem Sch.waits_size:∀t:Sch,t.waits md ops ops.size=true
 | .done=>rfl
 | .take i r=>by
  simp only[Sch.waits,jG];refine⟨q8.2 λj a=>?_,waits_size r⟩;simp[q9.1 a]
 | .one _ r=>waits_size r
 | .two _ _ x y=>by simp only[Sch.waits,jG];exact⟨waits_size x,waits_size y⟩
 | .float _ _ r=>waits_size r
theorem FD{b:Nat}{a:Act}{w:A}(S:A->Prop)(t:Sch)(d:P.follows .mixedOrders=true)(e:Region.noSelect ops=true)
 (hk:fH .any ops t (j6 ops.size false)=true) (f:t.len<=ops.size) (g:∀c a h w,Q (.panic c) a w->Q (.panic c) h w)
 (c:S w.drew) (h:dF P ops Q S t a w.drew):(Code.region b ops true).wp P Q a w:=
 FR S ops.size t d e hk (Sch.waits_size t) f g c (dF.toF t _ _ h)
theorem Oy{i:Nat}{o:jl}{v:ih}{r:Sch}{a:Act}{w:A}(b:ops[i]?=T o)(c:Region.wanted o (jT ops a.tmps)=true)
 (d:∀w,S w->(jK a.eval o).run P w=.ok (.value v) w) (h:dF P ops Q S r (a.put o.dst v) w):dF P ops Q S (.take i r) a w:=
 ⟨o,v,b,.inl ⟨c,λw e=>.inl (d w e)⟩,h⟩
theorem Je{i:Nat}{o:jl}{r:Sch}{a:Act}{w:A}(b:ops[i]?=T o)(c:Region.wanted o (jT ops a.tmps)=false)
 (h:dF P ops Q S r (a.put o.dst jp) w):dF P ops Q S (.take i r) a w:=
 ⟨o,jp,b,.inr ⟨c,rfl⟩,h⟩
theorem Jy{i:Nat}{o:jl}{r:Sch}{a:Act}{w:A}(d:ops[i]?=T o)
 (h:∀b:Act->A->Prop,Shut (∀a w,S w->(S w->dF P ops Q S r a w)->b a w)->if Region.wanted o (jT ops a.tmps)=true then Oper.wp P o a w b Q else b (a.put o.dst jp) w):
 dF P ops Q S (.one i r) a w:=
 wpOp_step d λb e=>h b (λa w c f=>e a w ⟨c,λ_=>f c⟩)
theorem OR{i:Nat}{o:jl}{v:ih}{r:Sch}{a:Act}{w:A}{f:FuncId}{args:Array ih}(b:ops[i]?=T o)(c:Region.wanted o (jT ops a.tmps)=true)
 (he:∀w,(jK a.eval o).run P w=.ok (.enter f args) w) (d:∀w,S w->jj P f args w λe w'=>e=jh v/\w'=w) (h:dF P ops Q S r (a.put o.dst v) w):dF P ops Q S (.take i r) a w:=
 ⟨o,v,b,.inl ⟨c,λw e=>.inr ⟨f,args,he w,d w e⟩⟩,h⟩
theorem Pg{i j:Nat}{x y:Sch}{a:Act}{w:A}(b:dF P ops Q S (.one i x) a w)(c:dF P ops Q S (.one j y) a w):dF P ops Q S (.two i j x y) a w:=
 ⟨b,c⟩
end
end
section
def bZ(w:A)(v:ih)(sz n:Nat)(xs:List ih):Prop:=
 xs.length=n*sz/\∃(p:Option jA) (c:Nat),v=ji p n c/\n<=c/\(p=ic->c=0)/\
  (0<n->∃g o,p=T ⟨g,o,ic⟩/\∀(j:Nat) a,xs[j]?=T a->w.cell? ⟨g,o+j,ic⟩=T a)
theorem eR{w:A}{a:jA}{b:ih}(h:w.cell? a=T b):a.block<w.heap.size:=by
 unfold jP at h
 cases hb:w.heap[a.block]? with
 |none=>simp[hb]at h
 |some x=>exact(jE.1 hb).1
theorem bZ.below{w w':A}{v:ih}{sz n:Nat}{xs:List ih}(h:bZ w v sz n xs)(f:jd w w w'):bZ w' v sz n xs:=by
 obtain⟨i,p,c,rfl,k,l,m⟩:=h;refine⟨i,p,c,rfl,k,l,λq=>?_⟩;obtain⟨g,o,e,a⟩:=m q;exact⟨g,o,e,λj b d=>by rw[f.cell (p:=⟨g,o+j,ic⟩) (eR (a j b d))];exact a j b d⟩
theorem bZ.of_own{w:A}{B sz n:Nat}{e:jk}{v:ih}{xs:List ih}(h:w.ownsRow B e sz v n xs):bZ w v sz n xs:=by
 refine⟨h.1,?_⟩
 rcases h.2 with⟨rfl,b⟩|⟨g,c,k,rfl,l,d,f,m,o,i⟩
 ·have j:n=0:=by
   first
    |exact b
    |(have a:=h.1;rw[b]at a;simp at a;omega)
  subst j;exact⟨ic,0,rfl,jn _,λ_=>rfl,λa=>by omega⟩
 refine⟨T ⟨g,0,ic⟩,c,rfl,f,λe=>by simp at e,λ_=>⟨g,0,rfl,λj p a=>?_⟩⟩;have q:j<xs.length:=(jW.1 a).1;rw[<-i]at a;rw[List.getElem?_take]at a
 split at a
 ·simp only[jP,d]
  simpa using a
 cases a
theorem Bh(g o j:Nat):(⟨g,o,ic⟩:jA).add j=⟨g,o+j,ic⟩:=by unfold Addr.add;split<;>simp_all
section
variable {P:jw}
theorem Nj(w:A)(base:Nat)(t f e:jk)(i:TypeInfo)(z:ih)(size h:Nat)(l:P.underlying t=T (.slice e))(q:P.info? e=T i)(x:i.zero=T z)
 (y:i.size=size) (B:i.bytes=h) (C:z.cells.size=size) (D:0<size)
 (v:ih) (n:Nat) (xs:List ih) (k:w.ownsRow base e size v n xs) (a:ih) (m:Nat) (b:List ih) (E:bZ w a size m b) (F:∀a∈b,a.oneCell'=true)
 (H:n+m<=jL) (K:(n+m)*h<=140737488355328) (M:base<=w.heap.size):
 ∃d w',(Builtin.append_ #[t,t] f #[v,a]).run P w=.ok d w'/\w'.ownsRow base e size d (n+m) (xs++b)/\w.grownBy w' v.ownBlock:=by
 obtain⟨r,p,c,rfl,X,Q,R⟩:=E
 rcases p with _|s
 ·have g:=Q rfl
  subst g;obtain rfl:m=0:=Y;obtain rfl:b=[]:=qH Y;exact⟨v,w,run_append_owned_none (P:=P) (w:=w) base t f e i size l q v n xs k,by simpa using k,p6.refl _ _⟩
 have S:∀(j:Nat) a,b[j]?=T a->w.cell? (s.add j)=T a:=?_
 ·obtain⟨d,w',g,o,u,_⟩:=run_append_own (P:=P) w base t f e i z size h l q x y B C D v n xs k s m c b r S F H K M
  exact⟨d,w',g,o,u⟩
 intro j a u;have U:=(jW.1 u).1;have V:0<m:=by
  rcases ki m with g|g
  ·rw[r,g]at U;omega
  exact g
 obtain⟨g,o,e,W⟩:=R V;obtain rfl:=qI.inj e;rw[Bh];exact W j a u
theorem Fl{w:A}{o:jl}{a:Act}{K:Act->A->Prop}{g:jC->Act->A->Prop}(s x:kw)(t:jk)
 (j:o.op=.call {callee:=.builtin .append,args:=#[s,x],argTypes:=#[t,t]})
 (base:Nat) (e:jk) (i:TypeInfo) (z:ih) (size f:Nat) (k:P.underlying t=T (.slice e)) (l:P.info? e=T i) (p:i.zero=T z)
 (q:i.size=size) (r:i.bytes=f) (u:z.cells.size=size) (y:0<size)
 (v:ih) (n:Nat) (xs:List ih) (B:a.eval s=v) (C:w.ownsRow base e size v n xs) (b:ih) (m:Nat) (c:List ih) (D:a.eval x=b) (E:bZ w b size m c) (F:∀b∈c,b.oneCell'=true)
 (H:n+m<=jL) (M:(n+m)*f<=140737488355328) (Q:base<=w.heap.size)
 (h:∀d w',w'.ownsRow base e size d (n+m) (xs++c)->w.grownBy w' v.ownBlock->K (a.put o.dst d) w'):o.wp P a w K g:=by
 obtain⟨d,w',R,S,U⟩:=Nj (P:=P) w base t o.type e i z size f k l p q r u y v n xs C b m c E F H M Q;unfold Oper.wp jK;simp only[j,resolve,invoke,builtin,Sem.run_bind,Sem.run_pure,Result.andThen_ok,qJ,qa,qK,B,D,R];exact h d w' S U
theorem JL(w:A)(base:Nat)(t f e:jk)(i:TypeInfo)(z:ih)(size h:Nat)(l:P.underlying t=T (.slice e))(q:P.info? e=T i)(x:i.zero=T z)
 (y:i.size=size) (B:i.bytes=h) (C:z.cells.size=size) (D:0<size)
 (v:ih) (n:Nat) (xs:List ih) (k:w.ownsRow base e size v n xs) (a:ih) (m:Nat) (b:List ih) (E:bZ w a size m b) (F:∀a∈b,a.oneCell'=true)
 (H:n+m<=jL) (K:(n+m)*h<=140737488355328) (M:base<=w.heap.size):
 ∃d w',(Builtin.append_ #[t,t] f #[v,a]).run P w=.ok d w'/\w'.ownsRow base e size d (n+m) (xs++b)/\w.grownBy w' v.ownBlock/\(d.ownBlock=v.ownBlock\/d.ownBlock=T w.heap.size):=by
 obtain⟨r,p,c,rfl,X,Q,R⟩:=E
 rcases p with _|s
 ·have g:=Q rfl
  subst g;obtain rfl:m=0:=Y;obtain rfl:b=[]:=qH Y;exact⟨v,w,run_append_owned_none (P:=P) (w:=w) base t f e i size l q v n xs k,by simpa using k,p6.refl _ _,.inl rfl⟩
 have S:∀(j:Nat) a,b[j]?=T a->w.cell? (s.add j)=T a:=?_
 ·obtain⟨d,w',g,o,u,_,U⟩:=run_append_own_at (P:=P) w base t f e i z size h l q x y B C D v n xs k s m c b r S F H K M
  exact⟨d,w',g,o,u,U⟩
 intro j a u;have U:=(jW.1 u).1;have V:0<m:=by
  rcases ki m with g|g
  ·rw[r,g]at U;omega
  exact g
 obtain⟨g,o,e,W⟩:=R V;obtain rfl:=qI.inj e;rw[Bh];exact W j a u
theorem lT{w:A}{o:jl}{a:Act}{K:Act->A->Prop}{g:jC->Act->A->Prop}(s x:kw)(t:jk)
 (j:o.op=.call {callee:=.builtin .append,args:=#[s,x],argTypes:=#[t,t]})
 (base:Nat) (e:jk) (i:TypeInfo) (z:ih) (size f:Nat) (k:P.underlying t=T (.slice e)) (l:P.info? e=T i) (p:i.zero=T z)
 (q:i.size=size) (r:i.bytes=f) (u:z.cells.size=size) (y:0<size)
 (v:ih) (n:Nat) (xs:List ih) (B:a.eval s=v) (C:w.ownsRow base e size v n xs) (c:ih) (m:Nat) (d:List ih) (D:a.eval x=c) (E:bZ w c size m d) (F:∀c∈d,c.oneCell'=true)
 (H:n+m<=jL) (M:(n+m)*f<=140737488355328) (Q:base<=w.heap.size)
 (h:∀b w',w'.ownsRow base e size b (n+m) (xs++d)->w.grownBy w' v.ownBlock->(b.ownBlock=v.ownBlock\/b.ownBlock=T w.heap.size)->K (a.put o.dst b) w'):o.wp P a w K g:=by
 obtain⟨b,w',R,S,U,V⟩:=JL (P:=P) w base t o.type e i z size f k l p q r u y v n xs C c m d E F H M Q;unfold Oper.wp jK;simp only[j,resolve,invoke,builtin,Sem.run_bind,Sem.run_pure,Result.andThen_ok,qJ,qa,qK,B,D,R];exact h b w' S U V
end
end
section
section
variable {P:jw} {ops:Array jl} {Q:jC->Act->A->Prop} {md:Region.Mode} {S:A->Prop}
theorem Pr{o:jl}{a:Act}{w w':A}{K:Act->A->Prop}{v:ih}(h:(jK a.eval o).run P w=.ok (.value v) w')(b:K (a.put o.dst v) w'):o.wp P a w K Q:=by
 unfold Oper.wp;rw[h];exact b
theorem dW{o:jl}{a:Act}{w:A}{K:Act->A->Prop}(t:jk)(c:o.op=.alloc t)(b:Array ih)
 (d:∀w,(Instr.alloc t true (jB #[])).run P w=.ok (jy (T ⟨w,0,ic⟩)) (w.alloc (jb b t))) (h:K (a.put o.dst (jy (T ⟨w,0,ic⟩))) (w.alloc (jb b t))):o.wp P a w K Q:=by
 refine Pr (v:=jy (T ⟨w,0,ic⟩)) (w':=w.alloc (jb b t)) ?_ h;unfold jK;simp only[c,Sem.run_bind,d,Result.andThen_ok,Sem.run_pure]
end
end
theorem EN(a b:Nat)(c:a<4294967296)(d:b<4294967296):bits .or .u32 (a:Int) (b:Int)=((a|||b:Nat):Int):=
 (bits_nat .u32 32 L (λn e f=>IntWalk.u32_in n Y) a b Y Y).2
theorem Li(a b:Nat)(c:a<4294967296)(d:b<4294967296):bits .and .u32 (a:Int) (b:Int)=((a&&&b:Nat):Int):=
 (bits_nat .u32 32 L (λn e f=>IntWalk.u32_in n Y) a b Y Y).1
theorem GM(a b:Nat)(c:a<4294967296)(d:b<4294967296):bits .xor .u32 (a:Int) (b:Int)=((a^^^b:Nat):Int):=by
 have e:a%2^32=a:=jJ c;have f:b%2^32=b:=jJ d;have g:a^^^b<2^32:=Nat.xor_lt_two_pow c d;show jf.wrap ((sn 32 (a:Int)^^^sn 32 (b:Int)).toNat:Int)=_;simp only[BitVec.ofInt_natCast,sq,oj,e,f];exact IntWalk.u32_in _ Y
theorem bor(x y:BitVec 32):bits .or .u32 (x.toNat:Int) (y.toNat:Int)=((x|||y).toNat:Int):=by rw[EN _ _ x.isLt y.isLt,sv]
theorem BQ(x y:BitVec 32):bits .and .u32 (x.toNat:Int) (y.toNat:Int)=((x&&&y).toNat:Int):=by rw[Li _ _ x.isLt y.isLt,BitVec.toNat_and]
theorem gj(x y:BitVec 32):bits .xor .u32 (x.toNat:Int) (y.toNat:Int)=((x^^^y).toNat:Int):=by rw[GM _ _ x.isLt y.isLt,sq]
theorem iE(x y:BitVec 32):((x.toNat:Int)+(y.toNat:Int))%4294967296=((x+y).toNat:Int):=by rw[sx];simp
theorem wE(x:BitVec 32)(n d:Nat)(a:d=2^n):(x.toNat:Int)/(d:Int)=((x>>>n).toNat:Int):=by rw[qL,qM,a];simp
theorem wG(x:BitVec 8)(n d:Nat)(a:n<=24)(b:d=2^n):(x.toNat:Int)*(d:Int)=((x.setWidth 32<<<n).toNat:Int):=by
 have g:=x.isLt;have c:2^n<=2^24:=sh L a;have e:x.toNat*2^n<2^32:=by
  have:x.toNat*2^n<=255*2^24:=Nat.mul_le_mul Y c;omega
 have f:x.toNat%2^32=x.toNat:=jJ Y;rw[qN,ol,qb,f,jJ e,b];simp
theorem BN(x:BitVec 8):(x.toNat:Int)=((x.setWidth 32).toNat:Int):=by
 have a:=x.isLt;rw[ol,jJ Y]
theorem fV(x:BitVec 32)(k m d:Nat)(a:k<32)(b:m=2^k)(c:d=2^(32-k)):
 bits .or .u32 ((x.toNat:Int)*(m:Int)%4294967296) ((x.toNat:Int)/(d:Int))=((x.rotateLeft k).toNat:Int):=by
 have e:((x.toNat:Int)*(m:Int)%4294967296)=((x.toNat*m%4294967296:Nat):Int):=by simp
 have f:((x.toNat:Int)/(d:Int))=((x.toNat/d:Nat):Int):=by simp
 have g:x.toNat/d<4294967296:=tx (rv _ _) (aU x.isLt);rw[e,f,EN _ _ (ob _ L) g,uy,jJ a,sv,qN,qL,qb,qM,<-b,<-c]
theorem iN(x:BitVec 32)(k:Nat)(h:0<k)(hk:k<32):x.rotateLeft (32-k)=x.rotateRight k:=by
 rw[uy,BitVec.rotateRight_def,jJ hk,jJ (by omega:32-k<32),show 32-(32-k)=k by omega,BitVec.or_comm]
theorem eP{a b:Int}(h:a=b):Ending.returned (N jg a)=jh (N jg b):=by rw[h]
theorem Pl(x:BitVec 32)(w:A):
 jj ja 222 #[N jg x.toNat,N je 16] w λe w'=>e=jh (N jg (x.rotateLeft 16).toNat)/\w=w':=by
 have a:bits .and .u64 16 31=16:=by decide
 go_enter jM,jN
 go_wp2
 go_ret;exact⟨eP (fV x 16 65536 65536 L L L),rfl⟩
theorem OE(x:BitVec 32)(w:A):
 jj ja 222 #[N jg x.toNat,N je 12] w λe w'=>e=jh (N jg (x.rotateLeft 12).toNat)/\w=w':=by
 have a:bits .and .u64 12 31=12:=by decide
 go_enter jM,jN
 go_wp2
 go_ret;exact⟨eP (fV x 12 4096 1048576 L L L),rfl⟩
theorem FV(x:BitVec 32)(w:A):
 jj ja 222 #[N jg x.toNat,N je 8] w λe w'=>e=jh (N jg (x.rotateLeft 8).toNat)/\w=w':=by
 have a:bits .and .u64 8 31=8:=by decide
 go_enter jM,jN
 go_wp2
 go_ret;exact⟨eP (fV x 8 256 16777216 L L L),rfl⟩
theorem F4(x:BitVec 32)(w:A):
 jj ja 222 #[N jg x.toNat,N je 7] w λe w'=>e=jh (N jg (x.rotateLeft 7).toNat)/\w=w':=by
 have a:bits .and .u64 7 31=7:=by decide
 go_enter jM,jN
 go_wp2
 go_ret;exact⟨eP (fV x 7 128 33554432 L L L),rfl⟩
theorem MZ(x:BitVec 32)(w:A):
 jj ja 222 #[N jg x.toNat,N je (-7)] w λe w'=>e=jh (N jg (x.rotateRight 7).toNat)/\w=w':=by
 rw[<-iN x 7 L L];have a:bits .and .u64 (js.wrap (-7)) 31=25:=by decide
 go_enter jM,jN
 go_wp2
 go_ret;exact⟨eP (fV x 25 33554432 128 L L L),rfl⟩
theorem Ll(x:BitVec 32)(w:A):
 jj ja 222 #[N jg x.toNat,N je (-18)] w λe w'=>e=jh (N jg (x.rotateRight 18).toNat)/\w=w':=by
 rw[<-iN x 18 L L];have a:bits .and .u64 (js.wrap (-18)) 31=14:=by decide
 go_enter jM,jN
 go_wp2
 go_ret;exact⟨eP (fV x 14 16384 262144 L L L),rfl⟩
theorem Mj(x:BitVec 32)(w:A):
 jj ja 222 #[N jg x.toNat,N je (-17)] w λe w'=>e=jh (N jg (x.rotateRight 17).toNat)/\w=w':=by
 rw[<-iN x 17 L L];have a:bits .and .u64 (js.wrap (-17)) 31=15:=by decide
 go_enter jM,jN
 go_wp2
 go_ret;exact⟨eP (fV x 15 32768 131072 L L L),rfl⟩
theorem MV(x:BitVec 32)(w:A):
 jj ja 222 #[N jg x.toNat,N je (-19)] w λe w'=>e=jh (N jg (x.rotateRight 19).toNat)/\w=w':=by
 rw[<-iN x 19 L L];have a:bits .and .u64 (js.wrap (-19)) 31=13:=by decide
 go_enter jM,jN
 go_wp2
 go_ret;exact⟨eP (fV x 13 8192 524288 L L L),rfl⟩
theorem M5(x:BitVec 32)(w:A):
 jj ja 222 #[N jg x.toNat,N je (-6)] w λe w'=>e=jh (N jg (x.rotateRight 6).toNat)/\w=w':=by
 rw[<-iN x 6 L L];have a:bits .and .u64 (js.wrap (-6)) 31=26:=by decide
 go_enter jM,jN
 go_wp2
 go_ret;exact⟨eP (fV x 26 67108864 64 L L L),rfl⟩
theorem Mz(x:BitVec 32)(w:A):
 jj ja 222 #[N jg x.toNat,N je (-11)] w λe w'=>e=jh (N jg (x.rotateRight 11).toNat)/\w=w':=by
 rw[<-iN x 11 L L];have a:bits .and .u64 (js.wrap (-11)) 31=21:=by decide
 go_enter jM,jN
 go_wp2
 go_ret;exact⟨eP (fV x 21 2097152 2048 L L L),rfl⟩
theorem Po(x:BitVec 32)(w:A):
 jj ja 222 #[N jg x.toNat,N je (-25)] w λe w'=>e=jh (N jg (x.rotateRight 25).toNat)/\w=w':=by
 rw[<-iN x 25 L L];have a:bits .and .u64 (js.wrap (-25)) 31=7:=by decide
 go_enter jM,jN
 go_wp2
 go_ret;exact⟨eP (fV x 7 128 33554432 L L L),rfl⟩
theorem FY(x:BitVec 32)(w:A):
 jj ja 222 #[N jg x.toNat,N je (-2)] w λe w'=>e=jh (N jg (x.rotateRight 2).toNat)/\w=w':=by
 rw[<-iN x 2 L L];have a:bits .and .u64 (js.wrap (-2)) 31=30:=by decide
 go_enter jM,jN
 go_wp2
 go_ret;exact⟨eP (fV x 30 1073741824 4 L L L),rfl⟩
theorem G5(x:BitVec 32)(w:A):
 jj ja 222 #[N jg x.toNat,N je (-13)] w λe w'=>e=jh (N jg (x.rotateRight 13).toNat)/\w=w':=by
 rw[<-iN x 13 L L];have a:bits .and .u64 (js.wrap (-13)) 31=19:=by decide
 go_enter jM,jN
 go_wp2
 go_ret;exact⟨eP (fV x 19 524288 8192 L L L),rfl⟩
theorem JA(x:BitVec 32)(w:A):
 jj ja 222 #[N jg x.toNat,N je (-22)] w λe w'=>e=jh (N jg (x.rotateRight 22).toNat)/\w=w':=by
 rw[<-iN x 22 L L];have a:bits .and .u64 (js.wrap (-22)) 31=10:=by decide
 go_enter jM,jN
 go_wp2
 go_ret;exact⟨eP (fV x 10 1024 4194304 L L L),rfl⟩
def le4(a b c d:BitVec 8):BitVec 32:=a.setWidth 32|||b.setWidth 32<<<8|||c.setWidth 32<<<16|||d.setWidth 32<<<24
theorem Lz(d a b c:BitVec 8):bits .or .u32 (bits .or .u32 (bits .or .u32 (d.toNat:Int) ((a.toNat:Int)*256)) ((b.toNat:Int)*65536)) ((c.toNat:Int)*16777216)=((le4 d a b c).toNat:Int):=by
 rw[BN d,show((a.toNat:Int)*256)=_ from wG a 8 256 L L,show((b.toNat:Int)*65536)=_ from wG b 16 65536 L L,
  show((c.toNat:Int)*16777216)=_ from wG c 24 16777216 L L,bor,bor,bor];rfl
theorem Bt(g o c n:Nat)(h:4<=n)(i:n<4611686018427387904)(a b d f:BitVec 8)(w:A)(j:w.cell? ⟨g,o,ic⟩=T (N jo a.toNat))(k:w.cell? ⟨g,o+1,ic⟩=T (N jo b.toNat))
 (l:w.cell? ⟨g,o+2,ic⟩=T (N jo d.toNat)) (m:w.cell? ⟨g,o+3,ic⟩=T (N jo f.toNat)):
 jj ja 248 #[ji (T ⟨g,o,ic⟩) n c] w λe w'=>e=jh (N jg (le4 a b d f).toNat)/\∃q,w'=w.drewN q:=by
 go_enter func248,ntmps248
 go_wp2
 go_quiet (fail)
 go_wp2
 go_ret;exact⟨eP (Lz a b d f),_,rfl⟩
def aF(W:A)(g:Nat)(t:jk)(v:List (BitVec 32)):Prop:=
 W.heap[g]?=T (jb (v.map λx=>I .u32 (x.toNat:Int)).toArray t (0,0))
theorem aF.cell{W:A}{g:Nat}{t:jk}{v:List (BitVec 32)}(h:aF W g t v){i:Nat}(a:i<v.length):
 W.cell? ⟨g,i,ic⟩=T (N jg (v.getD i 0).toNat):=by
 simp[jP,show W.heap[g]?=_ from h,a,jF]
theorem aF.frozen{W:A}{g:Nat}{t:jk}{v:List (BitVec 32)}(h:aF W g t v)(i:Nat):W.frozen? ⟨g,i,ic⟩=false:=by
 simp[wi,show W.heap[g]?=_ from h]
theorem aF.lt{W:A}{g:Nat}{t:jk}{v:List (BitVec 32)}(h:aF W g t v):g<W.heap.size:=(jE.1 h).1
theorem aF.set{W:A}{g:Nat}{t:jk}{v:List (BitVec 32)}(h:aF W g t v)(i:Nat)(x:BitVec 32):
 aF (W.setCell ⟨g,i,ic⟩ (N jg x.toNat)) g t (v.set i x):=by
 have a:=h.lt;have b:W.heap[g]=_:=(jE.1 h).2;show(W.heap.modify g _)[g]?=_;rw[qO];simp[a,b,List.map_set]
structure aN(g:Nat)(w w':A):Prop where
 os:w'.os=w.os
 tape:w'.tape=w.tape
 output:w'.output=w.output
 size:w'.heap.size=w.heap.size
 block:∀k,k≠g->w'.heap[k]?=w.heap[k]?
theorem aN.refl(g:Nat)(w:A):aN g w w:=⟨rfl,rfl,rfl,rfl,λ_ _=>rfl⟩
theorem aN.trans{g:Nat}{a b c:A}(h:aN g a b)(k:aN g b c):aN g a c:=
 ⟨k.os.trans h.os,k.tape.trans h.tape,k.output.trans h.output,k.size.trans h.size,λi d=>(k.block i d).trans (h.block i d)⟩
theorem aN.setCell(g i:Nat)(w:A)(x:ih):aN g w (w.setCell ⟨g,i,ic⟩ x):=
 ⟨rfl,rfl,rfl,by simp[qP],λk hk=>j4 _ _ _ _ hk⟩
theorem aN.below{g B:Nat}{w w':A}(h:aN g w w')(a:B<=g):jd B w w':=
 ⟨h.os,h.tape,h.output,ms h.size.symm,λk hk=>h.block k Y⟩
def stA(v:List (BitVec 32))(a b:Nat):List (BitVec 32):=v.set a (v.getD a 0+v.getD b 0)
def stD(v:List (BitVec 32))(d a k:Nat):List (BitVec 32):=v.set d ((v.getD d 0^^^v.getD a 0).rotateLeft k)
def qr(v:List (BitVec 32))(a b c d:Nat):List (BitVec 32):=
 stD (stA (stD (stA (stD (stA (stD (stA v a b) d a 16) c d) b c 12) a b) d a 8) c d) b c 7
theorem pQ(v a b):(stA v a b).length=v.length:=by simp[stA]
theorem sV(v a b k):(stD v a b k).length=v.length:=by simp[stD]
theorem Ad(v a b c d):(qr v a b c d).length=v.length:=by simp[qr,pQ,sV]
theorem Kz(x y z:BitVec 32)(a:jc ((x^^^y).rotateLeft 16=z))(w:A):
 jj ja 222 #[N jg (bits .xor .u32 (x.toNat:Int) (y.toNat:Int)),N je 16] w λe w'=>e=jh (N jg z.toNat)/\w=w':=by
 rw[gj,<-a];exact Pl _ _
theorem L0(x y z:BitVec 32)(a:jc ((x^^^y).rotateLeft 12=z))(w:A):
 jj ja 222 #[N jg (bits .xor .u32 (x.toNat:Int) (y.toNat:Int)),N je 12] w λe w'=>e=jh (N jg z.toNat)/\w=w':=by
 rw[gj,<-a];exact OE _ _
theorem Ka(x y z:BitVec 32)(a:jc ((x^^^y).rotateLeft 8=z))(w:A):
 jj ja 222 #[N jg (bits .xor .u32 (x.toNat:Int) (y.toNat:Int)),N je 8] w λe w'=>e=jh (N jg z.toNat)/\w=w':=by
 rw[gj,<-a];exact FV _ _
theorem PT(x y z:BitVec 32)(a:jc ((x^^^y).rotateLeft 7=z))(w:A):
 jj ja 222 #[N jg (bits .xor .u32 (x.toNat:Int) (y.toNat:Int)),N je 7] w λe w'=>e=jh (N jg z.toNat)/\w=w':=by
 rw[gj,<-a];exact F4 _ _
theorem C2(g:Nat)(t:jk)(v:List (BitVec 32))(Q:v.length=16)(a b c d:Nat)(ha:(a:Int)<16)(hb:(b:Int)<16)(hc:(c:Int)<16)(hd:(d:Int)<16)(w:A)
 (h:aF w g t v):
 jj ja 241 #[jy (T ⟨g,0,ic⟩),N je a,N je b,N je c,N je d] w λe w'=>
  e=jh (jB #[])/\aN g w w'/\aF w' g t (qr v a b c d):=by
 have f:aN g w w:=aN.refl g w;have n:qr v a b c d=stD (stA (stD (stA (stD (stA (stD (stA v a b) d a 16) c d) b c 12) a b) d a 8) c d) b c 7:=rfl;generalize qr v a b c d=R at n⊢;replace n:=O n
 go_enter func241,ntmps241
 replace f:=O f;replace h:=O h
 go_upto_region 0 with fail
 go_cut []from 10 to 22 (λl=>aF l g t (stA v a b)/\aN g w l)
 case first=>
  have m:=h.cell (i:=a) Y;have B:=h.cell (i:=b) Y;have q:=h.frozen a;generalize j:v.getD a 0=x at m;generalize k:v.getD b 0=y at B;replace j:=O j;replace k:=O k
  go_region
  rw[iE x y]
  go_wp2_with fail
  go_meet
  refine⟨?_,?_⟩
  ·rw[stA,j,k];exact h.set _ _
  exact f.trans ((aN.setCell g a w (N jg (x+y).toNat)).trans ⟨rfl,rfl,rfl,rfl,λ_ _=>rfl⟩)
 obtain⟨o,f⟩:=hcut;clear h;have E:(stA v a b).length=16:=by rw[pQ];exact Q
 generalize stA v a b=r at o E n;generalize wc=S at*;replace f:=O f;replace o:=O o
 go_upto_region 1 with fail
 go_cut []from 23 to 38 (λl=>aF l g t (stD r d a 16)/\aN g w l)
 case first=>
  have m:=o.cell (i:=d) Y;have B:=o.cell (i:=a) Y;have q:=o.frozen d;generalize j:r.getD d 0=x at m;generalize k:r.getD a 0=y at B;replace j:=O j;replace k:=O k;obtain⟨z,h⟩:∃z,jc ((x^^^y).rotateLeft 16=z):=⟨_,O rfl⟩
  go_region_with (go_at_call 222;refine(Kz x y z h _).mono ?_;rintro e w' ⟨rfl,rfl⟩)
  all_goals
   go_wp2_with fail
   go_meet
   refine⟨?_,?_⟩
   ·rw[stD,j,k,h];exact o.set _ _
   exact f.trans ((aN.setCell g d S (N jg z.toNat)).trans ⟨rfl,rfl,rfl,rfl,λ_ _=>rfl⟩)
 obtain⟨p,f⟩:=hcut;clear o;have F:(stD r d a 16).length=16:=by rw[sV];exact E
 generalize stD r d a 16=s at p F n;generalize wc=U at*;replace f:=O f;replace p:=O p
 go_upto_region 2 with fail
 go_cut []from 39 to 51 (λl=>aF l g t (stA s c d)/\aN g w l)
 case first=>
  have m:=p.cell (i:=c) Y;have B:=p.cell (i:=d) Y;have q:=p.frozen c;generalize j:s.getD c 0=x at m;generalize k:s.getD d 0=y at B;replace j:=O j;replace k:=O k
  go_region
  rw[iE x y]
  go_wp2_with fail
  go_meet
  refine⟨?_,?_⟩
  ·rw[stA,j,k];exact p.set _ _
  exact f.trans ((aN.setCell g c U (N jg (x+y).toNat)).trans ⟨rfl,rfl,rfl,rfl,λ_ _=>rfl⟩)
 obtain⟨o,f⟩:=hcut;clear p;have H:(stA s c d).length=16:=by rw[pQ];exact F
 generalize stA s c d=u at o H n;generalize wc=V at*;replace f:=O f;replace o:=O o
 go_upto_region 3 with fail
 go_cut []from 52 to 67 (λl=>aF l g t (stD u b c 12)/\aN g w l)
 case first=>
  have m:=o.cell (i:=b) Y;have B:=o.cell (i:=c) Y;have q:=o.frozen b;generalize j:u.getD b 0=x at m;generalize k:u.getD c 0=y at B;replace j:=O j;replace k:=O k;obtain⟨z,h⟩:∃z,jc ((x^^^y).rotateLeft 12=z):=⟨_,O rfl⟩
  go_region_with (go_at_call 222;refine(L0 x y z h _).mono ?_;rintro e w' ⟨rfl,rfl⟩)
  all_goals
   go_wp2_with fail
   go_meet
   refine⟨?_,?_⟩
   ·rw[stD,j,k,h];exact o.set _ _
   exact f.trans ((aN.setCell g b V (N jg z.toNat)).trans ⟨rfl,rfl,rfl,rfl,λ_ _=>rfl⟩)
 obtain⟨p,f⟩:=hcut;clear o;have K:(stD u b c 12).length=16:=by rw[sV];exact H
 generalize stD u b c 12=C at p K n;generalize wc=W at*;replace f:=O f;replace p:=O p
 go_upto_region 4 with fail
 go_cut []from 68 to 80 (λl=>aF l g t (stA C a b)/\aN g w l)
 case first=>
  have m:=p.cell (i:=a) Y;have B:=p.cell (i:=b) Y;have q:=p.frozen a;generalize j:C.getD a 0=x at m;generalize k:C.getD b 0=y at B;replace j:=O j;replace k:=O k
  go_region
  rw[iE x y]
  go_wp2_with fail
  go_meet
  refine⟨?_,?_⟩
  ·rw[stA,j,k];exact p.set _ _
  exact f.trans ((aN.setCell g a W (N jg (x+y).toNat)).trans ⟨rfl,rfl,rfl,rfl,λ_ _=>rfl⟩)
 obtain⟨o,f⟩:=hcut;clear p;have M:(stA C a b).length=16:=by rw[pQ];exact K
 generalize stA C a b=D at o M n;generalize wc=X at*;replace f:=O f;replace o:=O o
 go_upto_region 5 with fail
 go_cut []from 81 to 96 (λl=>aF l g t (stD D d a 8)/\aN g w l)
 case first=>
  have m:=o.cell (i:=d) Y;have B:=o.cell (i:=a) Y;have q:=o.frozen d;generalize j:D.getD d 0=x at m;generalize k:D.getD a 0=y at B;replace j:=O j;replace k:=O k;obtain⟨z,h⟩:∃z,jc ((x^^^y).rotateLeft 8=z):=⟨_,O rfl⟩
  go_region_with (go_at_call 222;refine(Ka x y z h _).mono ?_;rintro e w' ⟨rfl,rfl⟩)
  all_goals
   go_wp2_with fail
   go_meet
   refine⟨?_,?_⟩
   ·rw[stD,j,k,h];exact o.set _ _
   exact f.trans ((aN.setCell g d X (N jg z.toNat)).trans ⟨rfl,rfl,rfl,rfl,λ_ _=>rfl⟩)
 obtain⟨p,f⟩:=hcut;clear o;have P:(stD D d a 8).length=16:=by rw[sV];exact M
 generalize stD D d a 8=o at p P n;generalize wc=W6 at*;replace f:=O f;replace p:=O p
 go_upto_region 6 with fail
 go_cut []from 97 to 109 (λl=>aF l g t (stA o c d)/\aN g w l)
 case first=>
  have m:=p.cell (i:=c) Y;have B:=p.cell (i:=d) Y;have q:=p.frozen c;generalize j:o.getD c 0=x at m;generalize k:o.getD d 0=y at B;replace j:=O j;replace k:=O k
  go_region
  rw[iE x y]
  go_wp2_with fail
  go_meet
  refine⟨?_,?_⟩
  ·rw[stA,j,k];exact p.set _ _
  exact f.trans ((aN.setCell g c W6 (N jg (x+y).toNat)).trans ⟨rfl,rfl,rfl,rfl,λ_ _=>rfl⟩)
 obtain⟨l,f⟩:=hcut;clear p;have l7:(stA o c d).length=16:=by rw[pQ];exact P
 generalize stA o c d=p at l l7 n;generalize wc=W7 at*;have f:=O f;replace l:=O l
 go_upto_region 7 with fail
 have m:=l.cell (i:=b) Y;have B:=l.cell (i:=c) Y;have q:=l.frozen b;generalize j:p.getD b 0=x at m;generalize k:p.getD c 0=y at B;replace j:=O j;replace k:=O k;obtain⟨z,h⟩:∃z,jc ((x^^^y).rotateLeft 7=z):=⟨_,O rfl⟩
 go_region_with (go_at_call 222;refine(PT x y z h _).mono ?_;rintro e w' ⟨rfl,rfl⟩)
 all_goals
  go_wp2_with fail
  go_end0
  refine⟨rfl,?_,?_⟩
  ·exact f.trans ((aN.setCell g b W7 (N jg z.toNat)).trans ⟨rfl,rfl,rfl,rfl,λ_ _=>rfl⟩)
  rw[n,stD,j,k,h];exact l.set _ _
abbrev v8(x:BitVec 8):ih:=I .u8 (x.toNat:Int)
abbrev v32(x:BitVec 32):ih:=I .u32 (x.toNat:Int)
def bp(W:A)(g:Nat)(t:jk)(v:LBy):Prop:=
 W.heap[g]?=T (jb (v.map v8).toArray t (0,0))
theorem bp.cell{W:A}{g:Nat}{t:jk}{v:LBy}(h:bp W g t v){i:Nat}(a:i<v.length):
 W.cell? ⟨g,i,ic⟩=T (N jo (v.getD i 0).toNat):=by
 simp[jP,show W.heap[g]?=_ from h,a,jF,v8]
theorem bp.below{W a:A}{g B:Nat}{t:jk}{v:LBy}(h:bp W g t v)(b:jd B W a)(c:g<B):bp a g t v:=(b.block g c).trans h
theorem aF.below{W a:A}{g B:Nat}{t:jk}{v:List (BitVec 32)}(h:aF W g t v)(b:jd B W a)(c:g<B):aF a g t v:=(b.block g c).trans h
def gV:List (BitVec 32):=[0x61707865,0x3320646e,0x79622d32,0x6b206574]
def nS(b:LBy)(i:Nat):BitVec 32:=le4 (b.getD i 0) (b.getD (i+1) 0) (b.getD (i+2) 0) (b.getD (i+3) 0)
def keyed(kb:LBy):Nat->List (BitVec 32)
 |0=>gV++jX 12 0
 |i+1=>(keyed kb i).set (4+i) (nS kb (4*i))
def m0(kb a:LBy)(c:BitVec 32):Nat->List (BitVec 32)
 |0=>(keyed kb 8).set 12 c
 |i+1=>(m0 kb a c i).set (13+i) (nS a (4*i))
theorem yU(kb i):(keyed kb i).length=16:=by induction i with
 |zero=>rfl
 |succ i a=>simp[keyed,a]
theorem EP(kb nb c i):(m0 kb nb c i).length=16:=by induction i with
 |zero=>simp[m0,yU]
 |succ i a=>simp[m0,a]
def ez(kb a:LBy)(c:BitVec 32):List (BitVec 32):=m0 kb a c 3
theorem yN(kb nb c):(ez kb nb c).length=16:=EP _ _ _ _
theorem du{w:A}{g:Nat}{t:jk}{fr:Nat×Nat}{cs:Array ih}(h:w.heap[g]?=T (jb cs t fr)):w.setRow g cs=w:=by
 have a:=(jE.1 h);obtain⟨b,he⟩:=a;unfold World.setRow
 congr 1
 apply Array.ext_getElem?
 intro i;rw[qO]
 split
 ·rename_i e;subst e;simp[b,he]
 rfl
def oS(w:A):Prop:=Lib.TabIs ja w "chartroom/cipher.constants" .u32 [0x61707865,0x3320646e,0x79622d32,0x6b206574]
theorem oQ:ja.globalNamed "chartroom/cipher.constants" =T 6:=by kernel_rfl
theorem iZ{w:A}{g i:Nat}{v:ih}(h:w.cell? ⟨g,i,ic⟩=T v):g<w.heap.size:=by
 rcases nn g w.heap.size with a|a
 ·exact a
 simp[jP,qo a]at h
theorem J2{w:A}(b:w.cell? ⟨6,0,ic⟩=T (N jg 0x61707865))(c:w.cell? ⟨6,1,ic⟩=T (N jg 0x3320646e))(d:w.cell? ⟨6,2,ic⟩=T (N jg 0x79622d32))(e:w.cell? ⟨6,3,ic⟩=T (N jg 0x6b206574)):
 ∀(j:Nat) (v:ih),(gV.map v32)[j]?=T v->w.cell? ((⟨6,0,ic⟩:jA).add j)=T v:=by
 intro j v a
 match j,a with
 |0,a=>simp[gV,v32]at a;subst a;exact b
 |1,a=>simp[gV,v32]at a;subst a;exact c
 |2,a=>simp[gV,v32]at a;subst a;exact d
 |3,a=>simp[gV,v32]at a;subst a;exact e
 |j+4,a=>simp[gV]at a
theorem fi{w w':A}{p:jA}{v:ih}(h:w.cell? p=T v)(a:w'.heap[p.block]?=w.heap[p.block]?):w'.cell? p=T v:=by
 unfold jP at*;rw[a];exact h
theorem Km(w:A)(a B C:Obj):((((w.alloc a).alloc B).alloc C).drew).heap[w.heap.size+1+1]?=T C:=by
 show(((w.alloc a).alloc B).alloc C).heap[w.heap.size+1+1]?=T C;have:=jt ((w.alloc a).alloc B) C
 simpa using this
theorem EW(w:A)(a B C:Obj)(k:Nat)(hk:k<w.heap.size):((((w.alloc a).alloc B).alloc C).drew).heap[k]?=w.heap[k]?:=by
 show(((w.alloc a).alloc B).alloc C).heap[k]?=_;rw[jq _ _ _ (by simp;omega),jq _ _ _ (by simp;omega),jq _ _ _ hk]
theorem Mt:∀v∈gV.map v32,v.oneCell'=true:=by
 intro v a;obtain⟨x,_,rfl⟩:=j7.1 a
 rfl
theorem AY{P:jw}(t e:jk)(n:Nat)(a:P.underlying t=T (.array n e))(c:∀w,(sizeOf e).run P w=.ok 1 w)(g o l:Nat)(d:l<n)(W:A):
 (Instr.sliceAt t (jy (T ⟨g,o,ic⟩)) (T (N je (l:Int))) ic ic).run P W=.ok (ji (T ⟨g,o+l,ic⟩) (n-l) (n-l)) W:=by
 have he:P.elem t=e:=by simp[Program.elem,a]
 have b:P.arrayLen t=n:=by simp[Program.arrayLen,a]
 rw[run_sliceAt_array_l W t _ (by rw[he,b];exact a) .i64 _ Y (by rw[b];omega)];rw[he,b];simp[c,Result.andThen,slicedAt,Addr.add];rw[if_neg Y]
 split<;>simp[*]
theorem gr:∀w,(sizeOf 5).run ja w=.ok 1 w:=λw=>by go_simp
theorem NJ(kb a:LBy)(c:BitVec 32)(w:A)(hk:kb.length=32)(hn:a.length=12)(d:oS w):
 jj ja 240 #[jD (kb.map v8).toArray,jD (a.map v8).toArray,N jg c.toNat] w λe w'=>
  e=jh (jD ((ez kb a c).map v32).toArray)/\jd w w w':=by
 have q:w.cell? ⟨6,0,ic⟩=T (N jg 0x61707865):=d.cell oQ 0 L;have u:6<w.heap.size:=iZ q;have r:w.cell? ⟨6,1,ic⟩=T (N jg 0x3320646e):=d.cell oQ 1 L;have s:w.cell? ⟨6,2,ic⟩=T (N jg 0x79622d32):=d.cell oQ 2 L;have v:w.cell? ⟨6,3,ic⟩=T (N jg 0x6b206574):=d.cell oQ 3 L;generalize y:(kb.map v8).toArray=m;generalize z:(a.map v8).toArray=n;replace y:=O y;replace z:=O z;replace d:=O d
 go_enter func240,ntmps240
 go_wp2
 obtain⟨f,g⟩:∃f:List ih,f=jX 16 (N jg 0):=⟨_,rfl⟩;have i: #[I jf 0,I jf 0,I jf 0,I jf 0,
  I jf 0,I jf 0,I jf 0,I jf 0,
  I jf 0,I jf 0,I jf 0,I jf 0,
  I jf 0,I jf 0,I jf 0,I jf 0]=f.toArray:=by rw[g];rfl
 replace g:=O g;rw[i];replace i:=O i;have j:=Km w (jb m 53) (jb n 173) (jb f.toArray 327);have h:=EW w (jb m 53) (jb n 173) (jb f.toArray 327) 6 u;have o:=J2 (fi q h) (fi r h) (fi s h) (fi v h);have p:0+(gV.map v32).length<=f.length:=by rw[g];decide
 replace j:=O j;replace o:=O o;clear h;replace p:=O p
 go_region_law (refine step_copy_splice rfl (.tmp 9) (.tmp 10) 313 313 rfl 247 underlying313 rfl (T ⟨w.heap.size+1+1,0,ic⟩) (T ⟨6,0,ic⟩) 16 16 4 4 (by simp[Act.eval,Act.put]) (by simp[Act.eval,Act.put]) (w.heap.size+1+1) 0 f 327 j (gV.map v32) rfl (λ_=>⟨rfl,_,rfl,o⟩) p Mt (w.heap.size+1+1) _ (jz _ _) (jn _) ?_;intro l x h)
 have B:aF l (w.heap.size+1+1) 327 (keyed kb 0):=by
  have e:splice f 0 (gV.map v32)=(keyed kb 0).map v32:=by rw[g];rfl
  show l.heap[_]?=_;rw[x,e]
 have t:bp l w.heap.size 53 kb:=by
  show l.heap[_]?=_;rw[h.block _ Y,y];show(((w.alloc (jb m 53)).alloc (jb n 173)).alloc (jb f.toArray 327)).heap[w.heap.size]?=_;rw[jq _ _ _ (by simp;omega),jq _ _ _ ar,jt]
 have C:bp l (w.heap.size+1) 173 a:=by
  show l.heap[_]?=_;rw[h.block _ Y,z];show(((w.alloc (jb m 53)).alloc (jb n 173)).alloc (jb f.toArray 327)).heap[w.heap.size+1]?=_;rw[jq _ _ _ ar];have:=jt (w.alloc (jb m 53)) (jb n 173)
  simpa using this
 have D:jd w w l:=by
  refine Below.trans (b:=(((w.alloc (jb m 53)).alloc (jb n 173)).alloc (jb f.toArray 327)).drew) ⟨rfl,rfl,rfl,?_,λk hk=>EW w _ _ _ k hk⟩ (h.mono Y);show w.heap.size<=(((w.alloc (jb m 53)).alloc (jb n 173)).alloc (jb f.toArray 327)).heap.size;simp;omega
 have Q:=O B;have R:=O t;have S:=O C;have U:=O D;clear B t C D x h p o j g i q r s v d
 go_wp2_with fail
 go_loopw [12] (λi wr=>∃j:Nat,i=N je j/\j<=8/\jc (aF wr (w.heap.size+1+1) 327 (keyed kb j))/\jc (aN (w.heap.size+1+1) l wr)) (λi _=>(8-jm i).toNat)
 case atStart=>exact⟨0,rfl,by omega,Q,aN.refl _ _⟩
 obtain⟨j,rfl,V,g,k⟩:=hrel
 by_cases u:j<8
 ·have h:bp wr (w.heap.size) 53 kb:=(k.block _ Y).trans R
  have o:=h.cell (i:=4*j) Y;have p:=h.cell (i:=4*j+1) Y;have r:=h.cell (i:=4*j+2) Y;have s:=h.cell (i:=4*j+3) Y;have B:=g.frozen (4+j);have C:=g.cell (i:=4+j) (by rw[yU];omega);have v:=O o;have D:=O p;have E:=O r;have F:=O s;clear o p r s h;have X:∀W,(Instr.sliceAt 53 (jy (T ⟨w,0,ic⟩)) (T (N je (4*(j:Int)))) ic ic).run ja W=.ok (ji (T ⟨w,4*j,ic⟩) (32-4*j) (32-4*j)) W:=λW=>by
   have:=AY (P:=ja) 53 5 32 underlying53 gr (w.heap.size) 0 (4*j) Y W
   simpa using this
  go_wp2_with fail
  refine(Bt _ _ _ _ ?_ ?_ _ _ _ _ _ v.out D E F).mono ?_
  ·omega
  ·omega
  rintro e w' ⟨rfl,q,rfl⟩;have d:le4 (kb.getD (4*j) 0) (kb.getD (4*j+1) 0) (kb.getD (4*j+2) 0) (kb.getD (4*j+3) 0)=nS kb (4*j):=rfl;rw[d];clear d;obtain⟨x,d⟩:=J (nS kb (4*j));rw[<-d];have H:=O d;clear d
  go_wp2
  go_roundw
  case rel=>
   refine⟨j+1,by go_num,by omega,?_,?_⟩
   ·show aF _ _ _ (qc _ _ _)
    rw[<-H];exact aF.set (W:=wr.drewN q) g _ _
   exact k.trans (aN.trans (b:=wr.drewN q) ⟨rfl,rfl,rfl,rfl,λ_ _=>rfl⟩ (aN.setCell _ _ _ _))
  case measure=>simp[jm];omega
 have M:j=8:=Y;have K:jc (aF wr (w.heap.size+1+1) 327 (keyed kb 8)):=M▸g;clear g M;have B:=K.frozen 12;have C:=K.cell (i:=12) (by rw[yU];omega)
 go_wp2_with fail
 clear B C
 go_loopw [25] (λi wr=>∃j:Nat,i=N je j/\j<=3/\jc (aF wr (w.heap.size+1+1) 327 (m0 kb a c j))/\jc (aN (w.heap.size+1+1) l wr)) (λi _=>(3-jm i).toNat)
 case atStart=>
  refine⟨0,rfl,by omega,?_,?_⟩
  ·exact aF.set (W:=wr) K _ _
  exact k.trans (aN.setCell _ _ _ _)
 obtain⟨j,rfl,V,g,k⟩:=hrel
 by_cases u:j<3
 ·have h:bp wr (w.heap.size+1) 173 a:=(k.block _ Y).trans S
  have o:=h.cell (i:=4*j) Y;have p:=h.cell (i:=4*j+1) Y;have r:=h.cell (i:=4*j+2) Y;have s:=h.cell (i:=4*j+3) Y;have B:=g.frozen (13+j);have C:=g.cell (i:=13+j) (by rw[EP];omega);have v:=O o;have D:=O p;have E:=O r;have F:=O s;clear o p r s h;have X:∀W,(Instr.sliceAt 173 (jy (T ⟨w.heap.size+1,0,ic⟩)) (T (N je (4*(j:Int)))) ic ic).run ja W=.ok (ji (T ⟨w.heap.size+1,4*j,ic⟩) (12-4*j) (12-4*j)) W:=λW=>by
   have:=AY (P:=ja) 173 5 12 underlying173 gr (w.heap.size+1) 0 (4*j) Y W
   simpa using this
  go_wp2_with fail
  refine(Bt _ _ _ _ ?_ ?_ _ _ _ _ _ v.out D E F).mono ?_
  ·omega
  ·omega
  rintro e w' ⟨rfl,q,rfl⟩;have d:le4 (a.getD (4*j) 0) (a.getD (4*j+1) 0) (a.getD (4*j+2) 0) (a.getD (4*j+3) 0)=nS a (4*j):=rfl;rw[d];clear d;obtain⟨x,d⟩:=J (nS a (4*j));rw[<-d];have H:=O d;clear d
  go_wp2
  go_roundw
  case rel=>
   refine⟨j+1,by go_num,by omega,?_,?_⟩
   ·show aF _ _ _ (qc _ _ _)
    rw[<-H];exact aF.set (W:=wr.drewN q) g _ _
   exact k.trans (aN.trans (b:=wr.drewN q) ⟨rfl,rfl,rfl,rfl,λ_ _=>rfl⟩ (aN.setCell _ _ _ _))
  case measure=>simp[jm];omega
 have d:j=3:=Y;have r:jc (aF wr (w.heap.size+1+1) 327 (m0 kb a c 3)):=d▸g;clear g d;have h:wr.heap[w.heap.size+1+1]?=T (jb ((ez kb a c).map v32).toArray 327 (0,0)):=r.out;have o:((ez kb a c).map v32).toArray.size=16:=by rw[jO,jQ,yN]
 have p:((ez kb a c).map v32).toArray.all (·.oneCell')=true:=by
  rw[j5];intro v d;obtain⟨x,_,rfl⟩:=j7.1 (by simpa using d)
  rfl
 have s:jc (jd w w wr):=U.trans (k.below Y);generalize g:((ez kb a c).map v32).toArray=d at h o p;have x:=O g;clear g;have g:=O h;have q:=O o;have D:=O p;clear h o p
 go_upto_region 13 with fail
 refine j8 ?_;refine j9 rfl 327 _ rfl (w.heap.size+1+1) rfl 327 d (0,0) _ g.out o4 rfl (by rw[q];rfl) ?_;refine qi rfl λ_ t=>qj 327 _ _ rfl (w.heap.size+1+1) d rfl rfl 327 d g.out (by rw[q];rfl) rfl D (t _ _ ?_)
 rw[du g]
 go_wp2_with fail
 refine mb (v:=jD d) ?_ rfl ?_
 ·exact qk rfl _ _ _ 327 _ (0,0) _ rfl g o4 rfl (by rw[q];rfl)
 exact⟨by rw[x],s⟩
def mr(v:List (BitVec 32)):Nat->List (BitVec 32)
 |0=>v
 |i+1=>qr (mr v i) i (4+i) (8+i) (12+i)
def rC(v:List (BitVec 32)):Nat->List (BitVec 32)
 |0=>v
 |i+1=>qr (rC v i) i (4+(i+1)%4) (8+(i+2)%4) (12+(i+3)%4)
def fq(v:List (BitVec 32)):Nat->List (BitVec 32)
 |0=>v
 |r+1=>rC (mr (fq v r) 4) 4
theorem tV(v i):(mr v i).length=v.length:=by induction i with
 |zero=>rfl
 |succ i a=>rw[mr,Ad,a]
theorem AW(v i):(rC v i).length=v.length:=by induction i with
 |zero=>rfl
 |succ i a=>rw[rC,Ad,a]
theorem Ei(v i):(fq v i).length=v.length:=by induction i with
 |zero=>rfl
 |succ i a=>rw[fq,AW,tV,a]
theorem IY(g:Nat)(t:jk)(v:List (BitVec 32))(a:v.length=16)(i:Nat)(b:i<4)(w:A)(h:aF w g t v):
 jj ja 241 #[jy (T ⟨g,0,ic⟩),N je i,N je (4+(i:Int)),N je (8+(i:Int)),N je (12+(i:Int))] w λe w'=>
  e=jh (jB #[])/\aN g w w'/\aF w' g t (qr v i (4+i) (8+i) (12+i)):=by
 have:=C2 g t v a i (4+i) (8+i) (12+i) Y Y Y Y w h
 simpa using this
theorem Ms(g:Nat)(t:jk)(v:List (BitVec 32))(a:v.length=16)(i:Nat)(b:i<4)(w:A)(h:aF w g t v):
 jj ja 241 #[jy (T ⟨g,0,ic⟩),N je i,N je (4+((i:Int)+1)%4),N je (8+((i:Int)+2)%4),N je (12+((i:Int)+3)%4)] w λe w'=>
  e=jh (jB #[])/\aN g w w'/\aF w' g t (qr v i (4+(i+1)%4) (8+(i+2)%4) (12+(i+3)%4)):=by
 have:=C2 g t v a i (4+(i+1)%4) (8+(i+2)%4) (12+(i+3)%4) Y Y Y Y w h
 simpa using this
theorem rp:(ja.info? 5).map (λi=>(i.zero,i.size,i.bytes))=T (T (N jo 0),1,1):=by kernel_rfl
theorem GH(w:A)(l:List ih)(t:jk):∀j a,l[j]?=T a->(w.alloc (jb l.toArray t)).cell? ((⟨w,0,ic⟩:jA).add j)=T a:=by
 intro j a b;have c:(⟨w,0,ic⟩:jA).add j=⟨w,j,ic⟩:=by unfold Addr.add;split<;>simp_all
 rw[c];have d:=jt w (jb l.toArray t);simp only[jP,d]
 simpa using b
theorem aF.not_row{W:A}{B:Nat}{t e:jk}{a:List (BitVec 32)}(h:aF W B t a)(b:t≠e){base size k:Nat}{v:ih}{xs:List ih}(c:W.ownsRow base e size v k xs):T B≠v.ownBlock:=by
 rcases c.2 with⟨rfl,_⟩|⟨g,i,j,rfl,_,d,_⟩
 ·simp[qQ]
 intro f;obtain rfl:B=g:=by simpa [qQ]using f
 have:=(show W.heap[B]?=_ from h).symm.trans d;simp at this;exact b this.2
theorem aF.grown{W a:A}{B:Nat}{t:jk}{b:List (BitVec 32)}(h:aF W B t b){c:Option Nat}(d:W.grownBy a c)(e:T B≠c):aF a B t b:=(d.block B h.lt e).trans h
def pE(x:BitVec 32):LBy:=[x.setWidth 8,(x>>>8).setWidth 8,(x>>>16).setWidth 8,(x>>>24).setWidth 8]
def ly(v s:List (BitVec 32)):Nat->LBy
 |0=>[]
 |i+1=>ly v s i++pE (v.getD i 0+s.getD i 0)
def mM(kb a:LBy)(c:BitVec 32):LBy:=ly (fq (ez kb a c) 10) (ez kb a c) 16
theorem Do(x:BitVec 32):(x.toNat:Int)%256=((x.setWidth 8).toNat:Int):=by rw[ol];simp
theorem uZ(x:BitVec 32)(n d:Nat)(a:d=2^n):(x.toNat:Int)/(d:Int)%256=(((x>>>n).setWidth 8).toNat:Int):=by
 rw[wE x n d a,Do]
theorem size46:∀w,(sizeOf 247).run ja w=.ok 1 w:=λw=>by go_simp
theorem agg46:∀w,(isAgg 247).run ja w=.ok false w:=λw=>by go_simp
theorem KQ(V:List (BitVec 32))(b:V.length=16)(k:Nat)(hk:k<16)(W:A):
 (Instr.index 327 (jD (V.map v32).toArray) (N je (k:Int))).run ja W=.ok (N jg ((V.getD k 0).toNat:Int)) W:=by
 have c:=o4;have d:(0:Int)<=(k:Int)/\(k:Int)<((16:Nat):Int):=Y;have a:V[k]?=T (V.getD k 0):=by simp[b,hk,jF]
 unfold Instr.index;simp only[wq]at a⊢;generalize V[k]?.getD 0=x at a⊢;simp[asIntOf,qZ c,part,a,hk]
theorem On:(ja.info? 327).map (·.size)=T 16:=by kernel_rfl
theorem Em(w:A)(c a:Array ih)(d:c.size=16)(b:a.size=16)(e:a.all (·.oneCell')=true):
 (storeCells ⟨w,0,ic⟩ a.toList 0).run ja (w.alloc (jb c 327))=.ok () (w.alloc (jb a 327)):=
 run_storeCells_new w _ c a (by rw[On,b]) (by rw[d,b]) e
theorem F5(kb b:LBy)(c:BitVec 32)(w:A)(hk:kb.length=32)(M:b.length=12)(d:oS w):
 jj ja 211 #[jD (kb.map v8).toArray,jD (b.map v8).toArray,N jg c.toNat] w λe w'=>
  ∃v,e=jh v/\w'.ownsRow w 5 1 v 64 ((mM kb b c).map v8)/\jd w w w':=by
 have a3:6<w.heap.size:=iZ (d.cell oQ 0 L);have f:(kb.map v8).toArray.size=32:=by simp[hk]
 have g:(b.map v8).toArray.size=12:=by simp[M]
 have a:=λw h=>NJ kb b c w hk M h
 generalize i:(kb.map v8).toArray=u at f a⊢;generalize j:(b.map v8).toArray=y at g a⊢;have S:=O i;have U:=O j;have D:=O a;have E:=O d;have F:=O f;have H:=O g;clear a d i j f g;obtain⟨P,Q,R,m,n⟩:=j1 rp
 go_enter func211,ntmps211
 go_upto_region 1 with fail
 refine j8 ?_;refine j9 rfl 53 _ rfl w.heap.size rfl 53 u (0,0) _ ((jq _ _ _ ar).trans (jt w _)) underlying53 rfl (by rw[F];rfl) ?_;refine j9 rfl 173 _ rfl (w.heap.size+1) rfl 173 y (0,0) _ (by have:=jt (w.alloc (jb u 53)) (jb y 173);simpa using this) underlying173 rfl (by rw[H];rfl) ?_
 go_wp2_with fail
 refine(D _ ?_).mono ?_
 ·exact(Lib.tabBelow_of_tabIs E) _ ⟨rfl,rfl,rfl,by simp;omega,λk hk=>by rw[jq _ _ _ (by simp;omega),jq _ _ _ hk]⟩
 rintro e a ⟨rfl,i⟩;have d:((ez kb b c).map v32).toArray.size=16:=by rw[jO,jQ,yN]
 have g:((ez kb b c).map v32).toArray.all (·.oneCell')=true:=by
  rw[j5];intro v f;obtain⟨x,_,rfl⟩:=j7.1 (by simpa using f)
  rfl
 generalize j:((ez kb b c).map v32).toArray=f at d g⊢;have l:=O j;have p:=O g;have r:=O i;clear j g i;have g:=Em a #[I jf 0,I jf 0,I jf 0,I jf 0,I jf 0,I jf 0,I jf 0,I jf 0,I jf 0,I jf 0,I jf 0,I jf 0,I jf 0,I jf 0,I jf 0,I jf 0] f rfl d p
 go_upto_region 2 with fail
 clear g;refine j8 ?_;refine j9 rfl 327 _ rfl a.heap.size rfl 327 f (0,0) _ (jt a _) o4 rfl (by rw[d];rfl) ?_;have g:=Em (a.alloc (jb f 327)) #[I jf 0,I jf 0,I jf 0,I jf 0,I jf 0,I jf 0,I jf 0,I jf 0,I jf 0,I jf 0,I jf 0,I jf 0,I jf 0,I jf 0,I jf 0,I jf 0] f rfl d p;rw[jU]at g
 go_upto_region 4 with fail
 clear g;have i:aF ((a.alloc (jb f 327)).alloc (jb f 327)) (a.heap.size+1) 327 (fq (ez kb b c) 0):=by
  have:=jt (a.alloc (jb f 327)) (jb f 327);rw[jU]at this;show _ =T (Obj.cells ((ez kb b c).map v32).toArray 327 (0,0));rw[l];exact this
 have j:aF ((a.alloc (jb f 327)).alloc (jb f 327)) a.heap.size 327 (ez kb b c):=by
  show _ =T (Obj.cells ((ez kb b c).map v32).toArray 327 (0,0));rw[l,jq _ _ _ ar];exact jt a _
 have t:jd w w ((a.alloc (jb f 327)).alloc (jb f 327)):=by
  have g:jd w w ((w.alloc (jb u 53)).alloc (jb y 173)):=
   ⟨rfl,rfl,rfl,by simp;omega,λk hk=>by rw[jq _ _ _ (by simp;omega),jq _ _ _ hk]⟩
  have o:=g.trans (r.mono (by simp;omega));have v:=o.size;exact o.trans ⟨rfl,rfl,rfl,by simp;omega,λk hk=>by rw[jq _ _ _ (by simp;omega),jq _ _ _ Y]⟩
 have aa:w.heap.size<=a.heap.size:=by have:=r.size;simp at this;omega
 obtain⟨q,z⟩:=J ((a.alloc (jb f 327)).alloc (jb f 327));rw[<-z]at i j t⊢;have ad:a.heap.size+2<=q.heap.size:=by rw[z];simp
 obtain⟨g,K⟩:=J a.heap.size;rw[<-K]at i j aa ad⊢;have B:=O i;have C:=O j;have s:=O t;clear i j t z d p r l E D S U F H K;clear a;have z:(ez kb b c).length=16:=yN _ _ _;have D:jc (mM kb b c=ly (fq (ez kb b c) 10) (ez kb b c) 16):=O rfl;generalize ez kb b c=a at B C z D
 go_wp2_with fail
 go_loopw [21] (λt wr=>∃r:Nat,t=N je r/\r<=10/\jc (aF wr (g+1) 327 (fq a r))/\jc (aN (g+1) q wr)) (λt _=>(10-jm t).toNat)
 case atStart=>exact⟨0,rfl,by omega,B,aN.refl _ _⟩
 obtain⟨r,rfl,hr,E,j⟩:=hrel
 by_cases WR:r<10
 ·have au:=aj ((r:Int)<10)
  have S:=O (show(fq a r).length=16 by rw[Ei];exact z)
  go_wp2_with fail
  go_loopw [23] (λt d=>∃i:Nat,t=N je i/\i<=4/\jc (aF d (g+1) 327 (mr (fq a r) i))/\jc (aN (g+1) q d)) (λt _=>(4-jm t).toNat)
  case atStart=>exact⟨0,rfl,by omega,E,j⟩
  obtain⟨i,rfl,hi,d,U⟩:=hrel
  by_cases W:i<4
  ·go_wp2_with fail
   refine(IY _ _ _ ?_ i W _ d.out).mono ?_
   ·rw[tV];exact S
   rintro e w' ⟨rfl,l,p⟩;have F:=O (U.trans l);have H:=O p;clear l p
   go_wp2
   go_roundw
   case rel=>exact⟨i+1,by go_num,by omega,H,F⟩
   case measure=>simp[jm];omega
  have a1:=ak ((i:Int)<4);have K:i=4:=Y;have X:jc (aF wr (g+1) 327 (mr (fq a r) 4)):=K▸d;clear d K
  go_wp2_with fail
  go_loopw [36] (λt K=>∃d:Nat,t=N je d/\d<=4/\jc (aF K (g+1) 327 (rC (mr (fq a r) 4) d))/\jc (aN (g+1) q K)) (λt _=>(4-jm t).toNat)
  case atStart=>exact⟨0,rfl,by omega,X,U⟩
  obtain⟨d,rfl,hd,K,V⟩:=hrel
  by_cases al:d<4
  ·go_wp2_with fail
   refine(Ms _ _ _ ?_ d al _ K.out).mono ?_
   ·rw[AW,tV];exact S
   rintro e w' ⟨rfl,l,p⟩;have F:=O (V.trans l);have H:=O p;clear l p
   go_wp2
   go_roundw
   case rel=>exact⟨d+1,by go_num,by omega,H,F⟩
   case measure=>simp[jm];omega
  have l:d=4:=Y;have p:jc (aF wr (g+1) 327 (fq a (r+1))):=by
   have h:=K;rw[l]at h;exact h
  clear K l
  go_wp2
  go_roundw
  case rel=>exact⟨r+1,by go_num,by omega,p,V⟩
  case measure=>simp[jm];omega
 have d:r=10:=Y;have p:jc (aF wr (g+1) 327 (fq a 10)):=d▸E;clear E d
 go_upto_region 17 with fail
 refine j8 ?_;refine wpList_make_own wr rfl _ _ 59 rfl w.heap.size 5 P (N jo 0) 1 jv Q R m .i64 .i64 64 64 rfl rfl rfl (by rw[n];decide) (by unfold jL;omega) ?_ ?_
 ·have:=j.size;have:=s.size;omega
 intro E al d;have H:aF E (g+1) 327 (fq a 10):=p.grown d ar;have K:aF E g 327 a:=aF.grown ((j.block _ Y).trans C) d ar;have S:jd w w E:=(s.trans (j.below Y)).grown d (by have:=j.size;have:=s.size;omega) ar;have F:(fq a 10).length=16:=by rw[Ei];exact z
 have l:=O H;have RI:=O K;have Qp:=O S;clear H K S p j C B s d;generalize fq a 10=V at l F D
 go_upto_region 18 with fail
 refine j8 ?_;refine j9 rfl 327 _ rfl (g+1) rfl 327 (V.map v32).toArray (0,0) _ l.out o4 rfl (by rw[jO,jQ,F];rfl) ?_;have d:∀(k:Nat) (hk:k<16) (W:A),(Instr.index 327 (jD (V.map v32).toArray) (N je (k:Int))).run ja W=.ok (N jg ((V.getD k 0).toNat:Int)) W:=λk hk W=>KQ V F k hk W
 generalize(V.map v32).toArray=a4 at d⊢;have K:=O d;clear d l
 go_wp2_with fail
 go_loopw [12,58] (λl t wr=>∃k:Nat,t=N je k/\k<=16/\wr.ownsRow w 5 1 l (4*k) ((ly V a k).map v8)/\jc (aF wr g 327 a)/\jc (jd w w wr)) (λ_ t _=>(16-jm t).toNat)
 case atStart=>exact⟨0,rfl,by omega,al,RI,Qp⟩
 obtain⟨k,rfl,a5,d,s,t⟩:=hrel
 by_cases WS:k<16
 ·have H:=K k WS
  have S:=s.cell (i:=k) Y;have j:ly V a (k+1)=ly V a k++pE (V.getD k 0+a.getD k 0):=rfl;generalize V.getD k 0=U at H j;generalize a.getD k 0=xs at S j;have B:=O j;clear j
  go_upto_region 22 with fail
  rw[iE U xs];generalize hx:U+xs=x at B⊢;have au:(x.toNat:Int)%256=_:=Do x;have a1:(x.toNat:Int)/256%256=_:=uZ x 8 256 L;have a2:(x.toNat:Int)/65536%256=_:=uZ x 16 65536 L;have C:(x.toNat:Int)/(16777216:Int)=(((x>>>24).setWidth 8).toNat:Int):=by
   have:=uZ x 24 16777216 L;have j:=x.isLt;rw[<-this];omega
  generalize v:x.setWidth 8=j at au;generalize m:(x>>>8).setWidth 8=l at a1;generalize n:(x>>>16).setWidth 8=p at a2;generalize X:(x>>>24).setWidth 8=y3 at C;have HY:jc (pE x=[j,l,p,y3]):=O (by rw[pE,v,m,n,X]);clear hx v m n X H S;have S:=t.size;have H:(ly V a k++pE x).map v8=(ly V a k).map v8++[N jo j.toNat,N jo l.toNat,N jo p.toNat,N jo ((x.toNat:Int)/(16777216:Int))]:=by
   rw[HY,C];simp[v8]
  clear C;rw[<-B]at H;have X:=O H;clear H B HY
  go_wp2_with (at_builtin;refine ql _ rfl _ _ 59 rfl w.heap.size 5 P (N jo 0) 1 1 jv Q R m n rfl L _ _ _ rfl (d.alloc _) ⟨wr,0,ic⟩ 4 4 [N jo j.toNat,N jo l.toNat,N jo p.toNat,N jo ((x.toNat:Int)/(16777216:Int))] rfl rfl (GH _ _ _) (by simp[qd]) (by unfold jL;omega) Y (by simp;omega) ?_;intro H w4 B C _)
  rw[<-X]at B;go_roundw
  case rel=>
   refine⟨k+1,by go_num,by omega,B,?_,?_⟩
   ·have o:aF (wr.alloc (jb #[N jo j.toNat,N jo l.toNat,N jo p.toNat,N jo ((x.toNat:Int)/(16777216:Int))] 5)) g 327 a:=(jq _ _ _ s.lt).trans s
    exact o.grown C (o.not_row L (d.alloc _))
   exact(t.alloc S _).grown C (by simp;omega) (λk e=>(d.lt k e).1)
  case measure=>simp[jm];omega
 have i:k=16:=Y;rw[i,<-D]at d;have j:=O d;clear d i K
 go_wp2
 go_ret;exact⟨_,rfl,j,t⟩
theorem k6{w:A}{B a:Nat}{e:jk}{size:Nat}{v:ih}{n:Nat}{xs:List ih}(h:w.ownsRow B e size v n xs)(b:a<=B):w.ownsRow a e size v n xs:=by
 refine⟨h.1,?_⟩
 rcases h.2 with c|⟨g,d,f,i,j,k⟩
 ·exact .inl c
 exact .inr ⟨g,d,f,i,j0 b j,k⟩
def BytesAt(w:A)(v:ih)(l:LBy):Prop:=
 ∃(p:Option jA) (c:Nat),v=ji p l.length c/\l.length<=c/\(p=ic->c=0)/\
  (0<l.length->∃g o,p=T ⟨g,o,ic⟩/\∀j,j<l.length->w.cell? ⟨g,o+j,ic⟩=T (N jo (l.getD j 0).toNat))
theorem GN(w:A):
 jj ja 209 #[ji ic 0 0] w λe w'=>e=jh (ji ic 0 0)/\w=w':=by
 have d:∀(w:A) (a:Option jA) (n c n' b:Nat),(binOp .eql 59 (ji a n c) (ji ic n' b)).run ja w=.ok (.bool a.isNone) w:=λw a n c n' b=>Lib.run_eql_slice_nil w _ _ a n c n' b jv
 go_enter func209,ntmps209
 go_wp2
 go_ret;exact⟨rfl,rfl⟩
theorem Ps(g o c:Nat)(l:LBy)(t:l.length<=1000000)(w:A)(h:∀j,j<l.length->w.cell? ⟨g,o+j,ic⟩=T (N jo (l.getD j 0).toNat)):
 jj ja 209 #[ji (T ⟨g,o,ic⟩) l.length c] w λe w'=>∃v,e=jh v/\w'.ownsRow w 5 1 v l.length (l.map v8)/\jd w w w':=by
 have D:∀(w:A) (a:Option jA) (n c n' f:Nat),(binOp .eql 59 (ji a n c) (ji ic n' f)).run ja w=.ok (.bool a.isNone) w:=λw a n c n' f=>Lib.run_eql_slice_nil w _ _ a n c n' f jv
 obtain⟨u,y,z,B,C⟩:=j1 rp;have m:∀j b,(l.map v8)[j]?=T b->(w.alloc (jb #[] 5)).cell? ((⟨g,o,ic⟩:jA).add j)=T b:=by
  intro j b i;have d:j<l.length:=by
   have:=(jW.1 i).1
   simpa using this
  have p:(⟨g,o,ic⟩:jA).add j=⟨g,o+j,ic⟩:=by unfold Addr.add;split<;>simp_all
  rw[p];have k:b=N jo (l.getD j 0).toNat:=by
   simp[d]at i;simp[<-i,v8,d,jF]
  rw[k];exact fi (h j d) (jq _ _ _ (iZ (h j d)))
 have i:(w.alloc (jb #[] 5)).ownsRow w.heap.size 5 1 (ji (T ⟨w,0,ic⟩) 0 0) 0 []:=
  ⟨rfl,.inr ⟨w.heap.size,0,#[],rfl,jn _,jt w _,jn _,by unfold jL;omega,rfl,rfl⟩⟩
 have p:∀b∈l.map v8,b.oneCell'=true:=by
  intro b k;obtain⟨x,_,rfl⟩:=j7.1 k
  rfl
 have q:=O m;have r:=O i;have s:=O p;have k:(l.map v8).length=l.length*1:=by simp
 have d:=O k;clear m i p k h;obtain⟨i,h⟩:=J (l.map v8);rw[<-h]at q s d⊢;clear h;generalize l.length=n at t d⊢
 go_enter func209,ntmps209
 go_wp2_with (at_builtin;refine ql _ rfl _ _ 59 rfl w.heap.size 5 u (N jo 0) 1 1 jv y z B C rfl L _ _ _ rfl r ⟨g,o,ic⟩ n c i rfl d q s (by unfold jL;omega) Y ar ?_;intro h x m p _)
 go_ret;refine⟨h,rfl,by simpa using m,?_⟩;exact Below.grown (w:=w.alloc (jb #[] 5)) ⟨rfl,rfl,rfl,by simp,λk hk=>jq _ _ _ hk⟩ p ar (λk e=>(r.lt k e).1)
def kR(l:LBy):List Int:=l.map λb=>(b.toNat:Int)
theorem OP(l):(kR l).length=l.length:=by simp[kR]
def iz(l:LBy):ByteArray:=strOfNums (kR l)
theorem DX{α β:Type}{f:α->β}(c:∀a b,f a=f b->a=b):∀(l m:List α),l.map f=m.map f->l=m
 |[],[],_=>rfl
 |[],_ ::_,h=>by simp at h
 |_ ::_,[],h=>by simp at h
 |a::l,b::m,h=>by
  simp only[qa,List.cons.injEq]at h;rw[c a b h.1,DX c l m h.2]
theorem FC{l m:LBy}(h:(iz l).toList=(iz m).toList):l=m:=by
 have c:Lib.bytesOf (kR l)=Lib.bytesOf (kR m):=by
  rw[<-Lib.strOfNums_toList,<-Lib.strOfNums_toList];exact h
 unfold Lib.bytesOf kR at c;rw[qS,qS]at c;refine DX ?_ l m c;intro a b d;have e:UInt8.ofNat a.toNat=UInt8.ofNat b.toNat:=by simpa using d
 have f:=congrArg UInt8.toNat e;have g:=a.isLt;have i:=b.isLt;simp at f
 apply BitVec.eq_of_toNat_eq
 omega
theorem lW{w:A}{v:ih}{l:LBy}(h:BytesAt w v l):(convert 59 9 v).run ja w=.ok (lo (iz l)) w:=by
 obtain⟨p,c,rfl,j,k,d⟩:=h;refine Lib.BytesIn.convert (xs:=kR l) ?_ (OP l) c _ 5 _ jv qg lr
 rcases ki l.length with a|a
 ·rw[a]
  exact Lib.BytesIn.nil _ _ _
 obtain⟨g,o,rfl,e⟩:=d a;refine Lib.BytesIn.of_cells λi b=>?_
 have f:(⟨g,o,ic⟩:jA).add i=⟨g,o+i,ic⟩:=by unfold Addr.add;split<;>simp_all
 rw[f,e i b];simp[kR,b,jF]
theorem Nm(v b:ih)(l m:LBy)(w:A)(c:BytesAt w v l)(d:BytesAt w b m):
 jj ja 60 #[v,b] w λe w'=>e=jh (.bool (decide (l=m)))/\w=w':=by
 have f:=lW c;have g:=lW d;have a:((iz l).toList==(iz m).toList)=decide (l=m):=by
  by_cases h:l=m
  ·subst h;simp
  have i:(iz l).toList≠(iz m).toList:=λe=>h (FC e)
  simp only[h,decide_false,beq_eq_false_iff_ne,ne_eq];exact i
 generalize decide (l=m)=D at a⊢;clear c d;generalize iz l=c at f a;generalize iz m=d at g a
 go_enter func60,ntmps60
 go_wp2
 go_ret;exact⟨rfl,rfl⟩
theorem Pw(n:Nat)(r:n<=1000000)(w:A):
 jj ja 168 #[ji ic 0 0,N je n] w λe w'=>∃v,e=jh v/\w'.ownsRow w 5 1 v 0 []/\jd w w w':=by
 rcases ki n with b|b
 ·subst b
  go_enter func168,ntmps168
  go_wp2
  go_ret;exact⟨_,rfl,qT _ _ _ _,jz _ _⟩
 obtain⟨i,f,g,j,h⟩:=j1 rp;have a:=Lib.run_append_nil_zeros (P:=ja) w 59 3 59 5 i (N jo 0) .i64 .i64 jv underlying3 f g n b Y Y (by rw[h];omega);have l:=grownCap_ge w n 0 5;have c:=grownCap_le_maxLen w n 0 5 (by unfold jL;omega);generalize grownCap w n 0 5=C at a l c;have d:(Builtin.zeroCells (I .u8 0).cells n++Builtin.zeroCells (I .u8 0).cells (C-n)).size=C*1:=by
  simp[Builtin.zeroCells,Value.cells];omega
 generalize Builtin.zeroCells (I .u8 0).cells n++Builtin.zeroCells (I .u8 0).cells (C-n)=m at a d;have o:=O a;have p:=O d;have q:=O c;clear a d c f g j h;have a:(0:Int)<(n:Int):=Y
 go_enter func168,ntmps168
 go_wp2_with (at_builtin;refine Lib.wpList_append_run _ rfl _ _ 59 3 rfl _ _ rfl rfl _ _ o.out ?_)
 go_ret;refine⟨_,rfl,⟨rfl,.inr ⟨w.heap.size,C,m,rfl,jn _,jt w.drew _,km _,q,p,rfl⟩⟩,?_⟩;exact⟨rfl,rfl,rfl,by simp,λk hk=>jq w.drew _ _ hk⟩
theorem Bf(l:LBy):∀a∈l.map v8,a.oneCell'=true:=by
 intro a b;obtain⟨x,_,rfl⟩:=j7.1 b
 rfl
theorem addr_add(g o j:Nat):(⟨g,o,ic⟩:jA).add j=⟨g,o+j,ic⟩:=by unfold Addr.add;split<;>simp_all
theorem AL{w:A}{k:Array jl}{m:List jl}{o:jl}{a:Act}{q:jC->Act->A->Prop}(r:o.guard=ic)(s x:kw)
 (t:o.op=.call {callee:=.builtin .append,args:=#[s,x],argTypes:=#[59,59]}) (base:Nat)
 (v:ih) (n:Nat) (xs:List ih) (u:a.eval s=v) (d:w.ownsRow base 5 1 v n xs) (f:ih) (l:LBy) (y:a.eval x=f) (C:BytesAt w f l)
 (R:n+l.length<=100000000) (D:base<=w.heap.size)
 (h:∀b w',w'.ownsRow base 5 1 b (n+l.length) (xs++l.map v8)->w.grownBy w' v.ownBlock->wpList ja k q m (a.put o.dst b) w'):wpList ja k q (o::m) a w:=by
 obtain⟨z,B,E,F,H⟩:=j1 rp;obtain⟨p,c,rfl,S,K,M⟩:=C
 rcases p with _|P
 ·have e:=K rfl
  subst e;have g:l=[]:=qH Y;subst g;exact wpList_append_own_none r s x 59 t base 5 z 1 jv B v n xs u d y (h v w (by simpa using d) (p6.refl _ _))
 refine ql w r s x 59 t base 5 z (N jo 0) 1 1 jv B E F H rfl L v n xs u d P l.length c (l.map v8) y ar ?_ (Bf l) (by unfold jL;omega) Y D (λb w' e g _=>h b w' e g);intro j f b;have i:j<l.length:=by
  have:=(jW.1 b).1
  simpa using this
 obtain⟨g,o,e,Q⟩:=M Y;obtain rfl:=qI.inj e;rw[addr_add,Q j i];simp[i]at b;simp[<-b,v8,i,jF]
theorem BytesAt.below{w w':A}{v:ih}{l:LBy}(h:BytesAt w v l)(d:jd w w w'):BytesAt w' v l:=by
 obtain⟨p,c,rfl,f,i,k⟩:=h;refine⟨p,c,rfl,f,i,λm=>?_⟩;obtain⟨g,o,e,a⟩:=k m;exact⟨g,o,e,λj b=>fi (a j b) (d.block _ (iZ (a j b)))⟩
theorem BytesAt.of_own{w:A}{B:Nat}{v:ih}{l:LBy}(h:w.ownsRow B 5 1 v l.length (l.map v8)):BytesAt w v l:=by
 rcases h.2 with⟨rfl,c⟩|⟨g,d,f,rfl,n,i,k,o,p,m⟩
 ·exact⟨ic,0,by rw[c],by omega,λ_=>rfl,λa=>by omega⟩
 refine⟨T ⟨g,0,ic⟩,d,rfl,k,λe=>by simp at e,λ_=>⟨g,0,rfl,λj a=>?_⟩⟩;have b:(f.toList.take (l.length*1))[j]?=(l.map v8)[j]?:=by rw[m]
 simp only[jP,i];have q:j<l.length*1:=Y;simp[a]at b;simp[b,v8,jF,a]
def fc(a:List (LBy))(k:Nat):LBy:=(a.take k).flatten
theorem Ff(a:List (LBy))(k:Nat)(hk:k<a.length):fc a (k+1)=fc a k++a.getD k []:=by
 unfold fc;rw[List.take_add_one,wt];simp[hk,jF]
theorem yI(a:List (LBy))(k:Nat):(fc a k).length<=a.flatten.length:=by
 have h:a.flatten=fc a k++(a.drop k).flatten:=by
  unfold fc;rw[<-wt,List.take_append_drop]
 rw[h];simp
theorem si(g m:Nat)(t:jk)(f:List ih)(a:List (LBy))(u:f.length=m)(x:a.length=m)(M:a.flatten.length<=1000000)(w:A)
 (b:w.heap[g]?=T (jb f.toArray t (0,0))) (c:∀i,i<m->BytesAt w (f.getD i jp) (a.getD i [])) (P:m<=1000):
 jj ja 112 #[ji (T ⟨g,0,ic⟩) m m] w λe w'=>∃v,e=jh v/\w'.ownsRow w 5 1 v a.flatten.length (a.flatten.map v8)/\jd w w w':=by
 have y:g<w.heap.size:=(jE.1 b).1;have o:jc (∀i,i<m->w.cell? ⟨g,i,ic⟩=T (f.getD i jp)):=O λi z=>by
  simp[jP,b,u,z,jF]
 have r:=O c;clear c b
 go_enter func112,ntmps112
 go_wp2_with fail
 go_loopw [3,11] (λs b wr=>∃k:Nat,b=N je k/\k<=m/\s=N je ((fc a k).length:Nat)/\wr=w) (λ_ b _=>(m-jm b).toNat)
 case atStart=>exact⟨0,rfl,by omega,rfl,rfl⟩
 obtain⟨k,rfl,hk,rfl,c⟩:=hrel;have B:=c.symm;subst B;clear c
 by_cases s:k<m
 ·have l:=o k s
  have C:=yI a (k+1);have d:=Ff a k Y;obtain⟨p,c,j,D,E,n⟩:=r k s;rw[j]at l;have h:(fc a (k+1)).length=(fc a k).length+(a.getD k []).length:=by rw[d];simp
  clear j n d;generalize(a.getD k []).length=n at l h D;have j:=O h;clear h;generalize(fc a k).length=q at j⊢;have F:¬((q:Int)+(n:Int)<0):=Y;have H:q+n<=1000000:=aw j
  go_wp2
  refine⟨⟨k+1,by go_num,by omega,?_,trivial⟩,by simp[jm];omega⟩;rw[j];simp
 have Q:jc (k=m):=O Y;have C:=yI a k
 go_wp2_with fail
 refine(Pw _ Y _).mono ?_;rintro e R ⟨v,rfl,D,c⟩;have E:=O c;clear c
 go_wp2_with fail
 go_loopw [6,27] (λl b c=>∃j:Nat,b=N je j/\j<=m/\c.ownsRow w 5 1 l (fc a j).length ((fc a j).map v8)/\jc (jd w w c)) (λ_ b _=>(m-jm b).toNat)
 case atStart=>exact⟨0,rfl,by omega,by simpa [fc]using D,E⟩
 obtain⟨j,rfl,S,b,c⟩:=hrel
 by_cases n:j<m
 ·have F:=fi (o j n) (c.block _ y)
  have l:=(r j n).below c;have d:=Ff a j Y;have p:=yI a (j+1);generalize f.getD j jp=U at F l;generalize a.getD j []=q at d l;have V:=c.size;have h:(fc a j).length+q.length<=1000000:=by rw[d,oo]at p;omega
  have H:=O d;have K:=O l;clear d l p
  go_wp2_with (at_builtin;refine AL rfl _ _ rfl w.heap.size _ _ _ rfl b _ q rfl K Y Y ?_;intro p W d l)
  go_roundw
  case rel=>
   refine⟨j+1,by go_num,by omega,?_,c.grown l Y (λk e=>(b.lt k e).1)⟩;rw[H]
   simpa using d
  case measure=>simp[jm];omega
 have d:j=m:=Y;have h:fc a j=a.flatten:=by rw[d,<-x];simp[fc]
 rw[h]at b;have l:=O b;clear b d h
 go_wp2
 go_ret;exact⟨_,rfl,l,c⟩
section
structure aW(B:Nat)(e:jk)(sz:Nat)(w w':A)(v a:ih)(n:Nat)(xs:List ih):Prop where
 own:w'.ownsRow B e sz a n xs
 grown:w.grownBy w' v.ownBlock
 lies:∀k,a.ownBlock=T k->v.ownBlock=T k\/w.heap.size<=k
theorem aW.trans{B:Nat}{e:jk}{sz n n':Nat}{w c d:A}{v f g:ih}{xs i:List ih}(h:aW B e sz w c v f n xs)(k:aW B e sz c d f g n' i):aW B e sz w d v g n' i:=by
 refine⟨k.own,⟨k.grown.os.trans h.grown.os,k.grown.tape.trans h.grown.tape,k.grown.output.trans h.grown.output,j0 h.grown.size k.grown.size,λj b l=>?_⟩,λj b=>?_⟩
 ·refine(k.grown.block j (qG b h.grown.size) (λe=>?_)).trans (h.grown.block j b l)
  rcases h.lies j e.symm with a|a
  ·exact l a.symm
  omega
 rcases k.lies j b with a|a
 ·exact h.lies j a
 exact .inr (j0 h.grown.size a)
theorem aW.after{B:Nat}{e:jk}{sz n:Nat}{w d f:A}{v g:ih}{h:List ih}(a:jd w w d)(k:aW B e sz d f v g n h):aW B e sz w f v g n h:=by
 refine⟨k.own,⟨k.grown.os.trans a.os,k.grown.tape.trans a.tape,k.grown.output.trans a.output,j0 a.size k.grown.size,λj b i=>?_⟩,λj b=>?_⟩
 ·exact(k.grown.block j (qG b a.size) i).trans (a.block j b)
 rcases k.lies j b with c|c
 ·exact .inl c
 exact .inr (j0 a.size c)
theorem aW.below{B:Nat}{e:jk}{sz n:Nat}{w w':A}{v a:ih}{xs b:List ih}{m:Nat}(h:aW B e sz w w' v a n xs)(c:w.ownsRow B e sz v m b)(d:B<=w.heap.size):jd B w w':=
 ⟨h.grown.os,h.grown.tape,h.grown.output,h.grown.size,λk hk=>h.grown.block k Y (λe=>by have:=(c.lt k e.symm).1;omega)⟩
theorem aW.old{B:Nat}{e:jk}{sz n:Nat}{w w':A}{v b:ih}{xs:List ih}(h:aW B e sz w w' v b n xs){g:Nat}{o:Obj}(a:w.heap[g]?=T o)(c:v.ownBlock≠T g):w'.heap[g]?=T o:=
 (h.grown.block g (jE.1 a).1 (λe=>c e.symm)).trans a
theorem aW.ne{B:Nat}{e:jk}{sz n:Nat}{w w':A}{v a:ih}{xs:List ih}(h:aW B e sz w w' v a n xs){g:Nat}(d:g<w.heap.size)(c:v.ownBlock≠T g):a.ownBlock≠T g:=λe=>by
 rcases h.lies g e with b|b
 ·exact c b
 omega
theorem aW.drop{B:Nat}{e:jk}{sz n:Nat}{w w':A}{v a:ih}{xs:List ih}(h:aW B e sz w w' v a n xs):aW B e sz w w' v a n xs:=h
theorem aW.refl{B:Nat}{e:jk}{sz n:Nat}{w:A}{v:ih}{xs:List ih}(h:w.ownsRow B e sz v n xs):aW B e sz w w v v n xs:=
 ⟨h,p6.refl _ _,λ_ h=>.inl h⟩
theorem bW{B:Nat}{e:jk}{sz n:Nat}{w:A}{v:ih}{xs:List ih}(h:w.ownsRow B e sz v n xs){g:Nat}(a:w.heap.size<=g\/g<B):v.ownBlock≠T g:=λe=>by
 have:=h.lt g e;omega
theorem de{B:Nat}{e:jk}{sz n:Nat}{w w':A}{v:ih}{xs:List ih}(h:w.ownsRow B e sz v n xs)(c:jd w w w'):w'.ownsRow B e sz v n xs:=by
 refine⟨h.1,?_⟩
 rcases h.2 with a|⟨g,d,f,i,a,b,j⟩
 ·exact .inl a
 exact .inr ⟨g,d,f,i,a,(c.block g (jE.1 b).1).trans b,j⟩
theorem aO{B:Nat}{e:jk}{sz n:Nat}{w:A}{v:ih}{xs:List ih}(h:w.ownsRow B e sz v n xs):∃p c,v=ji p n c:=by
 rcases h.2 with⟨rfl,a⟩|⟨g,b,d,rfl,-⟩
 ·exact⟨ic,0,by rw[a]⟩
 exact⟨_,b,rfl⟩
section
variable {P:jw}
theorem lD{B:Nat}{e:jk}{sz n:Nat}{w w':A}{v a:ih}{xs:List ih}(b:w'.ownsRow B e sz a n xs)(c:w.grownBy w' v.ownBlock)(d:a.ownBlock=v.ownBlock\/a.ownBlock=T w.heap.size):aW B e sz w w' v a n xs:=by
 refine⟨b,c,λk hk=>?_⟩
 rcases d with h|h
 ·exact .inl (h▸hk)
 rw[h]at hk;injection hk with hk
 exact .inr Y
theorem Ic{w w':A}{base:Nat}{t a f e:jk}{i:TypeInfo}(l:P.underlying t=T (.slice e))(m:P.underlying a=T .string)(o:P.info? e=T i)(q:i.zero=T (N jo 0))
 (r:i.size=1) (u:i.bytes=1) {v h:ih} {n:Nat} {xs:List ih} (p:w.ownsRow base e 1 v n xs) {s:ByteArray} (H:n+s.size<=140737488355328)
 (b:(Builtin.append_ #[t,a] f #[v,lo s]).run P w=.ok h w') (z:h=ji ic 0 0↔v=ji ic 0 0/\s.size=0):h.ownBlock=v.ownBlock\/h.ownBlock=T w.heap.size:=by
 have B:xs.length=n:=by simpa using p.1
 rcases p.2 with⟨rfl,rfl⟩|⟨g,k,x,rfl,K,C,M,Q,D,R⟩
 ·by_cases j:s.size=0
  ·rw[z.2 ⟨rfl,j⟩];exact .inl rfl
  have c:=run_append_nil_string (P:=P) w t a f e i (N jo 0) l m o q s Y Y (by rw[u];omega);rw[c]at b;injection b with d y
  rw[<-d];exact .inr rfl
 by_cases E:n+s.size<=k
 ·have j:x.size=k:=by simpa using D
  have c:=Lib.run_append_room_string (P:=P) w t a f e i l m o r g n k x C s E Y;rw[c]at b;injection b with d y
  rw[<-d];exact .inl rfl
 have F:∀j a,xs[j]?=T a->w.cell? ((⟨g,0,ic⟩:jA).add j)=T a:=p.cells (g:=g) rfl;have c:=Lib.run_append_grow_string (P:=P) w t a f e i (N jo 0) l m o q ⟨g,0,ic⟩ n k xs (by rw[r];simpa using B) F s Y Y (by rw[u];exact growslice_fits Y Y);rw[c]at b;injection b with d y
 rw[<-d];exact .inr rfl
end
theorem ey(W:A)(xs:List ih)(t:jk)(fr:Nat×Nat)(sz n c:Nat)(a:xs.length=n*sz)(b:n<=c):bZ (W.alloc (jb xs.toArray t fr)) (ji (T ⟨W,0,ic⟩) n c) sz n xs:=by
 refine⟨a,T ⟨W,0,ic⟩,c,rfl,b,(λh=>by cases h),λ_=>⟨W.heap.size,0,rfl,λj f d=>?_⟩⟩;have e:=jt W (jb xs.toArray t fr);unfold jP;simp only[e]
 simpa using d
theorem af(W:A)(o:Obj):jd W W (W.alloc o):=(jz _ W).alloc (jn _) _
structure kC(g:Nat)(w w':A):Prop where
 os:w'.os=w.os
 tape:w'.tape=w.tape
 output:w'.output=w.output
 size:w'.heap.size=w.heap.size
 block:∀k,k≠g->w'.heap[k]?=w.heap[k]?
theorem kC.below{g B:Nat}{w w':A}(h:kC g w w')(a:B<=g):jd B w w':=
 ⟨h.os,h.tape,h.output,ms h.size.symm,λk hk=>h.block k Y⟩
theorem uJ{P:jw}{W:A}{g i:Nat}{cs:Array ih}{t:jk}{v:ih}(a:W.heap[g]?=T (jb cs t (0,0)))(c:i<cs.size)(d:v.oneCell'=true):
 ∃b,(store ⟨g,i,ic⟩ v).run P W=.ok () b/\b.heap[g]?=T (jb (cs.setIfInBounds i v) t (0,0))/\kC g W b:=by
 refine⟨W.setCell ⟨g,i,ic⟩ v,?_,heap_setCell_same W g i cs t v a,⟨rfl,rfl,rfl,by simp[qP],λk hk=>j4 _ _ _ _ hk⟩⟩;have e:W.cell? ⟨g,i,ic⟩=T cs[i]:=by
  unfold jP;simp[a,c]
 rw[run_store _ _ _ v _ d,e];simp[frozen_of_row W g i cs t a]
theorem bH{W:A}{g i:Nat}{cs:Array ih}{t:jk}(v:ih)(a:W.heap[g]?=T (jb cs t (0,0)))(b:i<cs.size):
 (∃c,W.cell? ⟨g,i,ic⟩=T c)/\W.frozen? ⟨g,i,ic⟩=false/\(W.setCell ⟨g,i,ic⟩ v).heap[g]?=T (jb (cs.setIfInBounds i v) t (0,0))/\kC g W (W.setCell ⟨g,i,ic⟩ v):=by
 refine⟨⟨cs[i],?_⟩,frozen_of_row W g i cs t a,heap_setCell_same W g i cs t v a,⟨rfl,rfl,rfl,by simp[qP],λk hk=>j4 _ _ _ _ hk⟩⟩;unfold jP;simp[a,b]
theorem cell_of{W:A}{g i:Nat}{cs:Array ih}{t:jk}{fr:Nat×Nat}{v:ih}(a:W.heap[g]?=T (jb cs t fr))(b:cs[i]?=T v):W.cell? ⟨g,i,ic⟩=T v:=by
 unfold jP;simp[a,b]
theorem GP(s:ByteArray):Lib.strCells s=(s.data.toList.map UInt8.toBitVec).map v8:=by
 unfold Lib.strCells;rw[qS]
 rfl
theorem rq(l:LBy):∀a∈l.map v8,a.oneCell'=true:=by
 intro a b;obtain⟨x,-,rfl⟩:=j7.1 b
 rfl
theorem BytesAt.row{w:A}{v:ih}{l:LBy}(h:BytesAt w v l):bZ w v 1 l.length (l.map v8):=by
 obtain⟨p,c,rfl,b,d,f⟩:=h;refine⟨by simp,p,c,rfl,b,d,λi=>?_⟩;obtain⟨g,o,e,k⟩:=f i;refine⟨g,o,e,λj n a=>?_⟩;rw[qU]at a
 cases hx:l[j]? with
 |none=>rw[hx]at a;cases a
 |some x=>
  rw[hx]at a;injection a with a
  have m:=(jW.1 hx).1;rw[k j m,<-a];simp[jF,hx]
theorem AK:(ja.info? 5).map (λi=>(i.zero,i.size,i.bytes))=T (T (N jo 0),1,1):=by kernel_rfl
theorem mJ{w:A}{o:jl}{a:Act}{K:Act->A->Prop}{e:jC->Act->A->Prop}(s x:kw)
 (f:o.op=.call {callee:=.builtin .append,args:=#[s,x],argTypes:=#[59,59]})
 (B:Nat) (v:ih) (n:Nat) (xs:List ih) (g:a.eval s=v) (i:w.ownsRow B 5 1 v n xs) (b:ih) (m:Nat) (c:List ih) (j:a.eval x=b) (k:bZ w b 1 m c) (l:∀b∈c,b.oneCell'=true)
 (E:n+m<=4000000) (p:B<=w.heap.size) (h:∀d w',aW B 5 1 w w' v d (n+m) (xs++c)->K (a.put o.dst d) w'):o.wp ja a w K e:=by
 obtain⟨q,r,t,u,y⟩:=j1 AK;exact lT s x 59 f B 5 q (N jo 0) 1 1 jv r t u y rfl L v n xs g i b m c j k l (by unfold jL;omega) Y p
  λd w' z C D=>h d w' (lD z C D)
theorem JU{w:A}{o:jl}{a:Act}{K:Act->A->Prop}{l:jC->Act->A->Prop}(s x:kw)
 (m:o.op=.call {callee:=.builtin .append,args:=#[s,x],argTypes:=#[59,9]})
 (B:Nat) (v:ih) (n:Nat) (xs:List ih) (p:a.eval s=v) (d:w.ownsRow B 5 1 v n xs) (b:ByteArray) (q:a.eval x=lo b)
 (C:n+b.size<=4000000) (r:B<=w.heap.size) (h:∀c w',aW B 5 1 w w' v c (n+b.size) (xs++(b.data.toList.map UInt8.toBitVec).map v8)->K (a.put o.dst c) w'):o.wp ja a w K l:=by
 obtain⟨t,e,f,g,i⟩:=j1 AK;obtain⟨c,w',j,k,u,y⟩:=Lib.run_append_own_string (P:=ja) w B 59 9 o.type 5 t jv lr e f g i v n xs d b (by unfold jL;omega) Y r;have z:=Ic jv lr e f g i d Y j y;rw[GP]at k;unfold Oper.wp jK;simp only[m,resolve,invoke,builtin,Sem.run_bind,Sem.run_pure,Result.andThen_ok,qJ,qa,qK,p,q,j];exact h c w' (lD k u z)
theorem aE{B:Nat}{e:jk}{sz n:Nat}{w w':A}{v:ih}{xs:List ih}(h:jc (w.ownsRow B e sz v n xs))(a:jd w w w'):jc (w'.ownsRow B e sz v n xs):=O (de h a)
end
theorem Nn(x:BitVec 32)(w:A):
 jj ja 223 #[N jg x.toNat,N je 6,N je 11,N je 25] w λe w'=>
  e=jh (N jg (x.rotateRight 6^^^x.rotateRight 11^^^x.rotateRight 25).toNat)/\w=w':=by
 obtain⟨a,d⟩:=J (x.rotateRight 6);obtain⟨b,f⟩:=J (x.rotateRight 11);obtain⟨c,g⟩:=J (x.rotateRight 25);have h:=M5 x;have i:=Mz x;have j:=Po x;rw[<-d]at h⊢;rw[<-f]at i⊢;rw[<-g]at j⊢;clear d f g
 go_enter func223,ntmps223
 go_wp2_with fail
 refine(h _).mono ?_;rintro e w' ⟨rfl,rfl⟩
 go_wp2_with fail
 refine(i _).mono ?_;rintro e w' ⟨rfl,rfl⟩
 go_wp2_with fail
 refine(j _).mono ?_;rintro e w' ⟨rfl,rfl⟩
 go_wp2
 go_ret;exact⟨eP (by rw[gj,gj]),rfl⟩
theorem NN(x:BitVec 32)(w:A):
 jj ja 223 #[N jg x.toNat,N je 2,N je 13,N je 22] w λe w'=>
  e=jh (N jg (x.rotateRight 2^^^x.rotateRight 13^^^x.rotateRight 22).toNat)/\w=w':=by
 obtain⟨a,d⟩:=J (x.rotateRight 2);obtain⟨b,f⟩:=J (x.rotateRight 13);obtain⟨c,g⟩:=J (x.rotateRight 22);have h:=FY x;have i:=G5 x;have j:=JA x;rw[<-d]at h⊢;rw[<-f]at i⊢;rw[<-g]at j⊢;clear d f g
 go_enter func223,ntmps223
 go_wp2_with fail
 refine(h _).mono ?_;rintro e w' ⟨rfl,rfl⟩
 go_wp2_with fail
 refine(i _).mono ?_;rintro e w' ⟨rfl,rfl⟩
 go_wp2_with fail
 refine(j _).mono ?_;rintro e w' ⟨rfl,rfl⟩
 go_wp2
 go_ret;exact⟨eP (by rw[gj,gj]),rfl⟩
def mK(l:LBy):Nat->BitVec 32
 |0=>0
 |j+1=>mK l j<<<8|||(l.getD j 0).setWidth 32
theorem Ox(a:BitVec 32)(y:BitVec 8):bits .or .u32 ((a.toNat:Int)*256%4294967296) (y.toNat:Int)=((a<<<8|||y.setWidth 32).toNat:Int):=by
 have b:((a.toNat:Int)*(256:Int)%(4294967296:Int))=((a<<<8).toNat:Int):=by
  rw[qN,qb];simp
 rw[b,BN y,bor]
theorem PH(g o c n:Nat)(i:4<=c)(l:LBy)(w:A)(a:∀j,j<4->w.cell? ⟨g,o+j,ic⟩=T (N jo (l.getD j 0).toNat)):
 jj ja 221 #[ji (T ⟨g,o,ic⟩) n c] w λe w'=>e=jh (N jg (mK l 4).toNat)/\w=w':=by
 replace a:=O a;have k:(4:Int)<=(c:Int):=Y;have p:c≠0:=Y;have q:(0==c)=false:=by simp;omega
 go_enter func221,ntmps221
 go_wp2_with fail
 go_loopw [2,8] (λm t wr=>∃j:Nat,t=N je j/\j<=4/\m=N jg (mK l j).toNat/\wr=w) (λ_ t _=>(4-jm t).toNat)
 case atStart=>exact⟨0,rfl,by omega,rfl,rfl⟩
 obtain⟨j,rfl,m,rfl,rfl⟩:=hrel
 by_cases d:j<4
 ·have f:=a j d
  have b:mK l (j+1)=mK l j<<<8|||(l.getD j 0).setWidth 32:=rfl;generalize l.getD j 0=y at f b;have h:=O b;clear b
  go_wp2
  refine⟨⟨j+1,by go_num,by omega,?_,trivial⟩,by simp[jm];omega⟩;rw[Ox,h]
 go_wp2
 go_ret;have:j=4:=Y;subst this;exact⟨rfl,rfl⟩
theorem bp.frozen{W:A}{g:Nat}{t:jk}{v:LBy}(h:bp W g t v)(i:Nat):W.frozen? ⟨g,i,ic⟩=false:=by
 simp[wi,show W.heap[g]?=_ from h]
theorem bp.lt{W:A}{g:Nat}{t:jk}{v:LBy}(h:bp W g t v):g<W.heap.size:=(jE.1 h).1
theorem bp.set{W:A}{g:Nat}{t:jk}{v:LBy}(h:bp W g t v)(i:Nat)(x:BitVec 8):
 bp (W.setCell ⟨g,i,ic⟩ (N jo x.toNat)) g t (v.set i x):=by
 have a:=h.lt;have b:W.heap[g]=_:=(jE.1 h).2;show(W.heap.modify g _)[g]?=_;rw[qO];simp[a,b,List.map_set]
def gW(a:LBy)(o n:Nat)(x:BitVec 64):Nat->LBy
 |0=>a
 |j+1=>(gW a o n x j).set (o+(n-1-j)) ((x>>>(8*j)).setWidth 8)
theorem yh(cur o n x j):(gW cur o n x j).length=cur.length:=by induction j with
 |zero=>rfl
 |succ j a=>simp[gW,a]
theorem Py(x:BitVec 64)(j:Nat):(x.toNat:Int)/2^(8*j)%256=(((x>>>(8*j)).setWidth 8).toNat:Int):=by
 rw[ol,qL,qM];simp
theorem Ao(g o c n:Nat)(t:jk)(k:n<=8)(b:LBy)(x:BitVec 64)(w:A)(h:bp w g t b)(l:o+n<=b.length)(m:n<=c):
 jj ja 188 #[ji (T ⟨g,o,ic⟩) n c,N ii x.toNat] w λe w'=>e=jh (jB #[])/\aN g w w'/\bp w' g t (gW b o n x n):=by
 replace h:=O h
 go_enter func188,ntmps188
 go_wp2_with fail
 go_loopw [7] (λa wr=>∃j:Nat,a=N je j/\j<=n/\jc (bp wr g t (gW b o n x j))/\jc (aN g w wr)) (λa _=>(n-jm a).toNat)
 case atStart=>exact⟨0,rfl,by omega,h,aN.refl _ _⟩
 obtain⟨j,rfl,p,a,d⟩:=hrel
 by_cases q:j<n
 ·have f:=a.cell (i:=o+(n-1-j)) (by rw[yh];omega)
  have r:=a.frozen (o+(n-1-j))
  go_wp2
  go_roundw
  case rel=>
   refine⟨j+1,by go_num,by omega,?_,d.trans (aN.setCell _ _ _ _)⟩;rw[Py];exact a.set _ _
  case measure=>simp[jm];omega
 have f:j=n:=Y;rw[f]at a
 go_wp2
 go_end0
 exact⟨rfl,d,a⟩
theorem Gu:(ja.info? 5).map (λi=>(i.zero,i.size,i.bytes))=T (T (N jo 0),1,1):=by kernel_rfl
def fT(n:Nat):Nat->LBy
 |0=>[]
 |j+1=>fT n j++[jH 8 (n/2^(56-8*j))]
theorem As(n j):(fT n j).length=j:=by induction j with
 |zero=>rfl
 |succ j a=>simp[fT,a]
theorem NS(n k:Nat):(n:Int)/2^(56-8*k)%256=((jH 8 (n/2^(56-8*k))).toNat:Int):=by
 rw[oj];simp
theorem JN(n k:Nat):(fT n (k+1)).map v8=(fT n k).map v8++[N jo ((n:Int)/2^(56-8*k)%256)]:=by
 rw[NS,fT,wx];rfl
theorem G4(n:Nat)(m:n<9223372036854775808)(w:A):
 jj ja 212 #[N je n] w λe w'=>∃v,e=jh v/\w'.ownsRow w 5 1 v 8 ((fT n 8).map v8)/\jd w w w':=by
 obtain⟨c,d,f,g,h⟩:=j1 Gu
 go_enter func212,ntmps212
 go_wp2_with fail
 go_loopw [2,4] (λl t wr=>∃k:Nat,t=N je k/\k<=8/\wr.ownsRow w 5 1 l k ((fT n k).map v8)/\jd w w wr) (λ_ t _=>(8-jm t).toNat)
 case atStart=>exact⟨0,rfl,by omega,qT _ _ _ _,jz _ _⟩
 obtain⟨k,rfl,hk,b,a⟩:=hrel
 by_cases o:k<8
 ·have i:=a.size
  replace a:=O a
  go_wp2_with (at_builtin;refine ql _ rfl _ _ 59 rfl w.heap.size 5 c (N jo 0) 1 1 jv d f g h rfl L _ _ _ rfl (b.alloc _) ⟨wr,0,ic⟩ 1 1 [N jo ((n:Int)/2^(56-8*k)%256)] rfl rfl (cell_one_new _ _ _) (by simp[qd]) (by unfold jL;omega) Y (by simp;omega) ?_;intro p q j l _)
  go_roundw
  case rel=>
   refine⟨k+1,by go_num,by omega,?_,?_⟩
   ·rw[JN];exact j
   exact(a.alloc i _).grown l (by simp;omega) (λk e=>(b.lt k e).1)
  case measure=>simp[jm];omega
 have i:k=8:=Y;rw[i]at b;have j:=O b;replace a:=O a;clear b
 go_wp2
 go_ret;exact⟨_,rfl,j,a⟩
section
section
variable {P:jw} {ops:Array jl} {md:Region.Mode} {C:A->Prop}
def pS(P:jw)(md:Region.Mode)(ops:Array jl)(C:A->Prop)(n:Nat)(c:Array Bool->Act->Prop):Nat->Array Bool->Act->Prop
 |0,b,a=>c b a
 |f+1,b,a=>Region.ready md ops b≠[]/\∀i∈Region.ready md ops b,i<n/\qOp P ops C i (pS P md ops C n c f (b.setIfInBounds i true)) a
theorem No{n g:Nat}{d:Array Bool->Act->Prop}{Q':jC->Act->A->Prop}(e:∀b a w,C w->d b a->wpAny P md ops Q' g b a w):
 ∀(f:Nat) (b:Array Bool) (a:Act) (w:A),C w->pS P md ops C n d f b a->wpAny P md ops Q' (f+g) b a w:=by
 intro f
 induction f with
 |zero=>
  intro b a w c h;rw[jR];exact e _ _ _ c h
 |succ f j=>
  intro b a w c h;rw[Nat.add_right_comm f 1 g];refine⟨λk=>absurd k h.1,λi l=>?_⟩;exact wpOp_of_qOp c (λm w' o p=>j _ m w' o p) (h.2 i l).2
theorem Pz{n i:Nat}{p:jl}{v:ih}{u:Array Bool->Act->Prop}(w:ops[i]?=T p)(y:∀(j:Nat) (o:jl) cs b,ops[j]?=T o->o.op≠.select cs b)
 (z:Region.sinkB md ops n=true) (B:Region.chainB md ops n=true) (D:n<ops.size) (E:i<n) (R:∀c a,u c a->∀j∈Region.ready md ops c,n<=j):
 ∀(f:Nat) (c:Array Bool) (a:Act),HeadInv md ops n c->
  (∀j l,ops[j]?=T l->j≠i->c.getD j true=false->(∀e∈l.after,Region.binds md e=true->e.on≠i)->p.apart ops l=true)->
  i∈Region.ready md ops c->YieldsIn P ops C p v a->
  pS P md ops C n u f (c.setIfInBounds i true) (a.put p.dst v)->pS P md ops C n u (f+1) c a:=by
 intro f
 induction f with
 |zero=>
  intro c a r _ g s H;have t:=(mem_ready.1 g).1;have o:∀j∈Region.ready md ops c,j<n:=λj d=>by
   rcases nn j n with h|h
   ·exact h
   exact absurd d (tail_waits z B D r _ i rfl E t j h)
  refine⟨λh=>(by rw[h]at g;cases g),λj d=>⟨o j d,?_⟩⟩
  rcases Decidable.em (j=i)with rfl|m
  ·exact s.qOp w H
  have F:=R _ _ H j (ready_mono d m);have K:=o j d;omega
 |succ f S=>
  intro c a r M g s H;have t:=(mem_ready.1 g).1;have o:∀j∈Region.ready md ops c,j<n:=λj d=>by
   rcases nn j n with h|h
   ·exact h
   exact absurd d (tail_waits z B D r _ i rfl E t j h)
  refine⟨λh=>(by rw[h]at g;cases g),λj d=>⟨o j d,?_⟩⟩
  rcases Decidable.em (j=i)with rfl|m
  ·exact s.qOp w H
  have F:=(H.2 j (ready_mono d m)).2;obtain⟨Q,l,x,U⟩:=mem_ready.1 d;have V:∀e∈l.after,Region.binds md e=true->e.on≠i:=λe he W X=>by
   have q:=U e he W;rw[X,getD_both t]at q
   cases q
  have K:=qOp_put x (M j l x m Q V) (λcs b=>y i p cs b w) (λcs b=>y j l cs b x) s F;refine qOp_mono (λb q=>S (c.setIfInBounds j true) b (r.set d (o j d)) (λk ok hk aa ad Q4=>M k ok hk aa ?_ Q4) (ready_mono g (Ne.symm m)) q.1 ?_) K
  ·rcases Decidable.em (j=k)with rfl|b
   ·exact Q
   rwa [getD_set_ne true b]at ad
  rw[q6 _ _ m];exact q.2
theorem MW{n g:Nat}{e:Act->Prop}(s:Region.noSelect ops=true)(t:Region.sinkB md ops n=true)(u:Region.chainB md ops n=true)(w:n<ops.size):
 ∀(l:List jl) (k:Nat) (b:Array Bool) (a:Act),(∀j,j<l.length->l[j]?=ops[k+j]?)->k+l.length=n->HeadInv md ops n b->
 Region.lexHead md ops g l.length k b=true->wpQuiet P ops C e l a->
 pS P md ops C n (λf i=>Region.seqB md ops g n f=true/\e i) l.length b a:=by
 intro l
 induction l with
 |nil=>
  intro k b a _ hk _ c h;obtain rfl:k=n:=by simpa using hk
  exact⟨by simpa [Region.lexHead]using c,h⟩
 |cons o l x=>
  intro k b a m hk p c h;have d:ops[k]?=T o:=by simpa using(m 0 ar).symm
  simp only[kl,Region.lexHead,jG]at c;obtain⟨⟨y,z⟩,B⟩:=c;have q:k<n:=by simp only[kl]at hk;omega
  have r:k∈Region.ready md ops b:=by simpa using y
  have D:qOp P ops C k (wpQuiet P ops C e l) a:=by unfold qOp;simp only[d];exact h
  obtain⟨v,E,F⟩:=yieldsIn_of_qOp d D;refine Pz d (Region.noSelect_spec s) t u w q (λf i H=>seqB_ready H.1) l.length b a p (Region.free_spec d z) r E ?_;exact x (k+1) _ _ (λj f=>by have:=m (j+1) (by simp;omega);simpa [qe,Nat.add_comm 1 j]using this) (by simp only[kl]at hk;omega) (p.set r q) B F
theorem Pu{o:Nat}{b:jC->Act->A->Prop}{a:Act}{w:A}{l:List jl}(n:Nat)(p:P.follows .mixedOrders=true)(e:Region.lexTailB .any l.toArray n=true)
 (h:wpQuiet P l.toArray (λw'=>∃m,w'=w.drewN m) (λd=>∀w',(∃m,w'=w.drewN m)->wpList P l.toArray b (l.drop n) d w') (l.take n) a):(Code.region o l.toArray true).wp P b a w:=by
 simp only[Region.lexTailB,jG,decide_eq_true_eq]at e;obtain⟨⟨⟨⟨q,f⟩,r⟩,s⟩,u⟩:=e;have z:n<l.length:=by simpa using f
 have c:(l.take n).length=n:=by simp;omega
 have i:(l.drop n).length=l.toArray.size-n:=by simp
 have v:HeadInv .any l.toArray n (j6 l.toArray.size false):=
  ⟨by simp,λj y _ k=>(by rw[getD_replicate_false]at k;cases k),λt _ x=>getD_in (by simpa using x) (getD_replicate_false _ _)⟩
 have H:=MW (md:=.any) (g:=l.toArray.size-n) q r s f (l.take n) 0 _ a (λj k=>by
  have t:j<n:=by rw[c]at k;exact k
  simp[t]) (by simpa using c) v (by rw[c];exact u) h
 refine wp_region_any p ?_;have t:∃m,({w with drawn:=w.drawn+1}:A)=w.drewN m:=⟨1,rfl⟩;have:=No (Q':=b) (g:=l.toArray.size-n) (λx d w' y k=>by
  have:=wpAny_of_seq (md:=.any) (Q':=b) (l.drop n) n x d w' (λj=>by simp[List.getElem?_drop]) (by rw[i];exact k.1) (k.2 w' y)
  rwa [i]at this) _ _ _ _ t H
 rw[c,show n+(l.toArray.size-n)=l.toArray.size by omega]at this;exact this
end
end
def mY(b:LBy):Nat->List (BitVec 32)
 |0=>jX 64 0
 |t+1=>(mY b t).set t (mK (b.drop (4*t)) 4)
theorem zI(b t):(mY b t).length=64:=by induction t with
 |zero=>simp[mY]
 |succ t a=>simp[mY,a]
def gk(x:BitVec 32)(k:Int):BitVec 32:=x.rotateRight (-k).toNat
def zd(W:List (BitVec 32))(t:Nat):BitVec 32:=
 W.getD (t-16) 0+(gk (W.getD (t-15) 0) (-7)^^^gk (W.getD (t-15) 0) (-18)^^^(W.getD (t-15) 0)>>>3)+W.getD (t-7) 0+
  (gk (W.getD (t-2) 0) (-17)^^^gk (W.getD (t-2) 0) (-19)^^^(W.getD (t-2) 0)>>>10)
theorem MN(W:List (BitVec 32))(t:Nat):zd W t=W.getD (t-16) 0+(gk (W.getD (t-15) 0) (-7)^^^gk (W.getD (t-15) 0) (-18)^^^(W.getD (t-15) 0)>>>3)+W.getD (t-7) 0+
 (gk (W.getD (t-2) 0) (-17)^^^gk (W.getD (t-2) 0) (-19)^^^(W.getD (t-2) 0)>>>10):=rfl
theorem FG(x:BitVec 32)(k:Int)(hk:k= -7\/k= -18\/k= -17\/k= -19)(w:A):
 jj ja 222 #[N jg x.toNat,N je k] w λe w'=>e=jh (N jg (gk x k).toNat)/\w'=w:=by
 rcases hk with rfl|rfl|rfl|rfl
 ·exact(MZ x w).mono λe w' h=>⟨h.1,h.2.symm⟩
 ·exact(Ll x w).mono λe w' h=>⟨h.1,h.2.symm⟩
 ·exact(Mj x w).mono λe w' h=>⟨h.1,h.2.symm⟩
 exact(MV x w).mono λe w' h=>⟨h.1,h.2.symm⟩
theorem Db(a b c d:BitVec 32):((a.toNat:Int)+(b.toNat:Int)+(c.toNat:Int)+(d.toNat:Int))%4294967296=((a+b+c+d).toNat:Int):=by
 simp only[sx];omega
def ua(x:BitVec 32):BitVec 32:=x.rotateRight 6^^^x.rotateRight 11^^^x.rotateRight 25
def wn(x:BitVec 32):BitVec 32:=x.rotateRight 2^^^x.rotateRight 13^^^x.rotateRight 22
theorem Mg(x:BitVec 32)(w:A):
 jj ja 223 #[N jg x.toNat,N je 6,N je 11,N je 25] w λe w'=>e=jh (N jg (ua x).toNat)/\w'=w:=
 (Nn x w).mono λe w' h=>⟨h.1,h.2.symm⟩
theorem LX(x:BitVec 32)(w:A):
 jj ja 223 #[N jg x.toNat,N je 2,N je 13,N je 22] w λe w'=>e=jh (N jg (wn x).toNat)/\w'=w:=
 (NN x w).mono λe w' h=>⟨h.1,h.2.symm⟩
def eC(b:LBy):Nat->List (BitVec 32)
 |0=>mY b 16
 |t+1=>(eC b t).set (16+t) (zd (eC b t) (16+t))
theorem nQ(b t):(eC b t).length=64:=by induction t with
 |zero=>exact zI b 16
 |succ t a=>simp[eC,a]
theorem uh{P:jw}(t e:jk)(a:P.underlying t=T (.slice e))(b:∀w,(sizeOf e).run P w=.ok 1 w)(g o n c l:Nat)(d:l<=n)(f:l<c)(W:A):
 (Instr.sliceAt t (ji (T ⟨g,o,ic⟩) n c) (T (N je (l:Int))) ic ic).run P W=.ok (ji (T ⟨g,o+l,ic⟩) (n-l) (c-l)) W:=by
 have he:P.elem t=e:=by simp[Program.elem,a]
 rw[q4 W t _ _ _ _ (by rw[he];exact a),run_slice_l W t _ n c (by rw[he];exact a) .i64 _ Y Y,he];simp[b,Result.andThen,sliced,Addr.add];rw[if_neg Y]
 split<;>simp[*]
def kf:List (BitVec 32):=[
 1116352408,1899447441,3049323471,3921009573,961987163,1508970993,2453635748,2870763221,
 3624381080,310598401,607225278,1426881987,1925078388,2162078206,2614888103,3248222580,
 3835390401,4022224774,264347078,604807628,770255983,1249150122,1555081692,1996064986,
 2554220882,2821834349,2952996808,3210313671,3336571891,3584528711,113926993,338241895,
 666307205,773529912,1294757372,1396182291,1695183700,1986661051,2177026350,2456956037,
 2730485921,2820302411,3259730800,3345764771,3516065817,3600352804,4094571909,275423344,
 430227734,506948616,659060556,883997877,958139571,1322822218,1537002063,1747873779,
 1955562222,2024104815,2227730452,2361852424,2428436474,2756734187,3204031479,3329325298]
def dJ(w:A):Prop:=Lib.TabIs ja w "chartroom/digest.numbers" .u32 (kf.map λx=>(x.toNat:Int))
theorem M0:ja.globalNamed "chartroom/digest.numbers" =T 3:=by kernel_rfl
theorem dJ.cell{w:A}(h:dJ w)(t:Nat)(a:t<64):w.cell? ⟨3,t,ic⟩=T (N jg (kf.getD t 0).toNat):=by
 have:=Lib.TabIs.cell h M0 t (by simpa [kf]using a);rw[this];have b:t<kf.length:=a;simp[b,jF]
def pR(v:List (BitVec 32))(k x:BitVec 32):BitVec 32:=
 v.getD 7 0+ua (v.getD 4 0)+(v.getD 6 0^^^(v.getD 4 0&&&(v.getD 5 0^^^v.getD 6 0)))+k+x
def qR(v:List (BitVec 32)):BitVec 32:=
 wn (v.getD 0 0)+((v.getD 0 0&&&v.getD 1 0)|||(v.getD 2 0&&&(v.getD 0 0|||v.getD 1 0)))
theorem N3(v:List (BitVec 32))(k x:BitVec 32):pR v k x=v.getD 7 0+ua (v.getD 4 0)+(v.getD 6 0^^^(v.getD 4 0&&&(v.getD 5 0^^^v.getD 6 0)))+k+x:=rfl
theorem M9(v:List (BitVec 32)):qR v=wn (v.getD 0 0)+((v.getD 0 0&&&v.getD 1 0)|||(v.getD 2 0&&&(v.getD 0 0|||v.getD 1 0))):=rfl
def shR(v:List (BitVec 32)):List (BitVec 32):=splice v 1 (v.take 7)
def oE(v:List (BitVec 32))(k x:BitVec 32):List (BitVec 32):=
 ((shR v).set 4 ((shR v).getD 4 0+pR v k x)).set 0 (pR v k x+qR v)
theorem Fs(v)(h:v.length=8):(shR v).length=8:=by simp[shR,splice,h]
theorem L8(v k x)(h:v.length=8):(oE v k x).length=8:=by simp[oE,Fs v h]
def gR(s W:List (BitVec 32)):Nat->List (BitVec 32)
 |0=>s
 |t+1=>oE (gR s W t) (kf.getD t 0) (W.getD t 0)
theorem DI(s W t)(h:s.length=8):(gR s W t).length=8:=by induction t with
 |zero=>exact h
 |succ t a=>exact L8 _ _ _ a
def gI(s v:List (BitVec 32)):Nat->List (BitVec 32)
 |0=>s
 |i+1=>(gI s v i).set i ((gI s v i).getD i 0+v.getD i 0)
theorem By(s v i):(gI s v i).length=s.length:=by induction i with
 |zero=>rfl
 |succ i a=>simp[gI,a]
def mQ(s:List (BitVec 32))(b:LBy):List (BitVec 32):=gI s (gR s (eC b 48) 64) 8
theorem Hd(s b)(h:s.length=8):(mQ s b).length=8:=by rw[mQ,By,h]
theorem BG(g o j:Nat):(⟨g,o,ic⟩:jA).add j=⟨g,o+j,ic⟩:=by unfold Addr.add;split<;>simp_all
theorem M8(l:List (BitVec 32)):∀a∈l.map v32,a.oneCell'=true:=by
 intro a b;obtain⟨x,_,rfl⟩:=j7.1 b
 rfl
theorem Od(g p o n c:Nat)(s:List (BitVec 32))(b:LBy)(hs:s.length=8)(hb:b.length=64)(hn:64<=n)(hc:n<=c)(w:A)
 (a:aF w g 279 s) (d:∀j,j<64->w.cell? ⟨p,o+j,ic⟩=T (N jo (b.getD j 0).toNat)) (f:dJ w):
 jj ja 187 #[jy (T ⟨g,0,ic⟩),ji (T ⟨p,o,ic⟩) n c] w λe w'=>
  e=jh (jB #[])/\aF w' g 279 (mQ s b)/\(∀k,k<w.heap.size->k≠g->w'.heap[k]?=w.heap[k]?)/\jd 0 w w':=by
 have bq:p<w.heap.size:=iZ (d 0 Y);have br:g<w.heap.size:=a.lt;have bs:3<w.heap.size:=iZ (f.cell 0 L);have HT:jc (∀t,t<64->w.cell? ⟨3,t,ic⟩=T (N jg (kf.getD t 0).toNat)):=O λt ht=>f.cell t ht
 have HG:=O a;have HC:=O d;clear a d f
 go_enter func187,ntmps187
 go_upto_region 1 with fail
 have a:aF (w.alloc (jb #[I .u32 0,I .u32 0,I .u32 0,I .u32 0,I .u32 0,I .u32 0,I .u32 0,I .u32 0,I .u32 0,I .u32 0,I .u32 0,I .u32 0,I .u32 0,I .u32 0,I .u32 0,I .u32 0,I .u32 0,I .u32 0,I .u32 0,I .u32 0,I .u32 0,I .u32 0,I .u32 0,I .u32 0,I .u32 0,I .u32 0,I .u32 0,I .u32 0,I .u32 0,I .u32 0,I .u32 0,I .u32 0,I .u32 0,I .u32 0,I .u32 0,I .u32 0,I .u32 0,I .u32 0,I .u32 0,I .u32 0,I .u32 0,I .u32 0,I .u32 0,I .u32 0,I .u32 0,I .u32 0,I .u32 0,I .u32 0,I .u32 0,I .u32 0,I .u32 0,I .u32 0,I .u32 0,I .u32 0,I .u32 0,I .u32 0,I .u32 0,I .u32 0,I .u32 0,I .u32 0,I .u32 0,I .u32 0,I .u32 0,I .u32 0] 309)) w.heap.size 309 (mY b 0):=by
  have:=jt w (jb #[I .u32 0,I .u32 0,I .u32 0,I .u32 0,I .u32 0,I .u32 0,I .u32 0,I .u32 0,I .u32 0,I .u32 0,I .u32 0,I .u32 0,I .u32 0,I .u32 0,I .u32 0,I .u32 0,I .u32 0,I .u32 0,I .u32 0,I .u32 0,I .u32 0,I .u32 0,I .u32 0,I .u32 0,I .u32 0,I .u32 0,I .u32 0,I .u32 0,I .u32 0,I .u32 0,I .u32 0,I .u32 0,I .u32 0,I .u32 0,I .u32 0,I .u32 0,I .u32 0,I .u32 0,I .u32 0,I .u32 0,I .u32 0,I .u32 0,I .u32 0,I .u32 0,I .u32 0,I .u32 0,I .u32 0,I .u32 0,I .u32 0,I .u32 0,I .u32 0,I .u32 0,I .u32 0,I .u32 0,I .u32 0,I .u32 0,I .u32 0,I .u32 0,I .u32 0,I .u32 0,I .u32 0,I .u32 0,I .u32 0,I .u32 0] 309);exact this
 have d:jd w w (w.alloc (jb #[I .u32 0,I .u32 0,I .u32 0,I .u32 0,I .u32 0,I .u32 0,I .u32 0,I .u32 0,I .u32 0,I .u32 0,I .u32 0,I .u32 0,I .u32 0,I .u32 0,I .u32 0,I .u32 0,I .u32 0,I .u32 0,I .u32 0,I .u32 0,I .u32 0,I .u32 0,I .u32 0,I .u32 0,I .u32 0,I .u32 0,I .u32 0,I .u32 0,I .u32 0,I .u32 0,I .u32 0,I .u32 0,I .u32 0,I .u32 0,I .u32 0,I .u32 0,I .u32 0,I .u32 0,I .u32 0,I .u32 0,I .u32 0,I .u32 0,I .u32 0,I .u32 0,I .u32 0,I .u32 0,I .u32 0,I .u32 0,I .u32 0,I .u32 0,I .u32 0,I .u32 0,I .u32 0,I .u32 0,I .u32 0,I .u32 0,I .u32 0,I .u32 0,I .u32 0,I .u32 0,I .u32 0,I .u32 0,I .u32 0,I .u32 0] 309)):=⟨rfl,rfl,rfl,by simp,λk hk=>jq _ _ _ hk⟩;obtain⟨S,f⟩:=J (w.alloc (jb #[I .u32 0,I .u32 0,I .u32 0,I .u32 0,I .u32 0,I .u32 0,I .u32 0,I .u32 0,I .u32 0,I .u32 0,I .u32 0,I .u32 0,I .u32 0,I .u32 0,I .u32 0,I .u32 0,I .u32 0,I .u32 0,I .u32 0,I .u32 0,I .u32 0,I .u32 0,I .u32 0,I .u32 0,I .u32 0,I .u32 0,I .u32 0,I .u32 0,I .u32 0,I .u32 0,I .u32 0,I .u32 0,I .u32 0,I .u32 0,I .u32 0,I .u32 0,I .u32 0,I .u32 0,I .u32 0,I .u32 0,I .u32 0,I .u32 0,I .u32 0,I .u32 0,I .u32 0,I .u32 0,I .u32 0,I .u32 0,I .u32 0,I .u32 0,I .u32 0,I .u32 0,I .u32 0,I .u32 0,I .u32 0,I .u32 0,I .u32 0,I .u32 0,I .u32 0,I .u32 0,I .u32 0,I .u32 0,I .u32 0,I .u32 0] 309));rw[<-f]at a d⊢;have h:S.heap.size=w.heap.size+1:=by rw[f];simp
 have bu:=O h;have HA:=O a;have HB:=O d;clear a d f h
 go_wp2_with fail
 go_loopw [14] (λa wr=>∃t:Nat,a=N je t/\t<=16/\jc (aF wr w.heap.size 309 (mY b t))/\jc (aN w.heap.size S wr)) (λa _=>(16-jm a).toNat)
 case atStart=>exact⟨0,rfl,by omega,HA,aN.refl _ _⟩
 obtain⟨t,rfl,ht,d,al⟩:=hrel
 by_cases bC:t<16
 ·have f:∀j,j<4->wr.cell? ⟨p,(o+4*t)+j,ic⟩=T (N jo ((b.drop (4*t)).getD j 0).toNat):=λj D=>by
   have h1:=HC (4*t+j) Y;have h2:(b.drop (4*t)).getD j 0=b.getD (4*t+j) 0:=by simp[jF]
   rw[h2,qe];exact fi h1 ((al.block _ (by show p≠_;omega)).trans (HB.block _ bq))
  have h:=O f;have bd:=d.frozen t;have C:=d.cell (i:=t) (by rw[zI];omega);have l:∀W,(Instr.sliceAt 59 (ji (T ⟨p,o,ic⟩) n c) (T (N je (4*(t:Int)))) ic ic).run ja W=.ok (ji (T ⟨p,o+4*t,ic⟩) (n-4*t) (c-4*t)) W:=λW=>by
   have:=uh (P:=ja) 59 5 jv gr p o n c (4*t) Y Y W
   simpa using this
  clear f
  go_wp2_with fail
  refine(PH p (o+4*t) (c-4*t) (n-4*t) Y (b.drop (4*t)) _ h.out).mono ?_;rintro e w' ⟨rfl,rfl⟩;obtain⟨x,f⟩:=J (mK (b.drop (4*t)) 4);rw[<-f];have m:=O f;clear f
  go_wp2
  go_roundw
  case rel=>
   refine⟨t+1,by go_num,by omega,?_,al.trans (aN.setCell _ _ _ _)⟩;show aF _ _ _ (qc _ _ _);rw[<-m];exact d.set _ _
  case measure=>simp[jm];omega
 have f:t=16:=Y;have bv:jc (aF wr w.heap.size 309 (eC b 0)):=by
  have h:=d;rw[f]at h;exact h
 clear d f;have bI:=ak ((t:Int)<16)
 go_wp2_with fail
 go_loopw [6] (λa wr=>∃q:Nat,a=N je q/\16<=q/\q<=64/\jc (aF wr w.heap.size 309 (eC b (q-16)))/\jc (aN w.heap.size S wr)) (λa _=>(64-jm a).toNat)
 case atStart=>exact⟨16,rfl,by omega,by omega,bv,al⟩
 obtain⟨q,rfl,VH,bK,f,m⟩:=hrel
 by_cases bM:q<64
 ·have bw:=aj ((q:Int)<64)
  have v:=f.cell (i:=q-15) (by rw[nQ];omega);have z:=f.cell (i:=q-2) (by rw[nQ];omega);have d:=MN (eC b (q-16)) q;generalize(eC b (q-16)).getD (q-15) 0=x at v d;generalize(eC b (q-16)).getD (q-2) 0=y at z d;have u:=O d;clear d
  go_upto_region 9 with fail
  go_quiet (fail)
  go_upto_region 10 with fail
  have r:jc (aF (wr.drewN nq) w.heap.size 309 (eC b (q-16))):=f;have B:jc (aN w.heap.size S (wr.drewN nq)):=m.trans ⟨rfl,rfl,rfl,rfl,λ_ _=>rfl⟩;obtain⟨C,E⟩:=J (wr.drewN nq);rw[<-E]at r B⊢;clear E v z f m;have d:=u.out;clear u;have v:=r.cell (i:=q-16) (by rw[nQ];omega);have E:=r.cell (i:=q-7) (by rw[nQ];omega);have F:=r.cell (i:=q) (by rw[nQ];omega);have bd:=r.frozen q;generalize(eC b (q-16)).getD (q-16) 0=z at v d;generalize(eC b (q-16)).getD (q-7) 0=H at E d;generalize(eC b (q-16)).getD q 0=U at F;have u:=O d;clear d;refine Pu 29 ae ae ?_;simp only[List.take_succ_cons,List.take_zero,List.drop_succ_cons,List.drop_zero]
  repeat (go_big_quiet_step (exact Calls.quiet_of_same (FG _ _ L _)))
  refine wpQuiet_nil ?_;rintro _ ⟨d,rfl⟩
  go_wp2
  go_roundw
  case rel=>
   refine⟨q+1,by go_num,by omega,by omega,?_,B.trans (aN.trans (b:=C.drewN d) ⟨rfl,rfl,rfl,rfl,λ_ _=>rfl⟩ (aN.setCell _ _ _ _))⟩;have K:q+1-16=(q-16)+1:=Y;have M:16+(q-16)=q:=Y;rw[K];show aF _ _ _ (qc _ (16+(q-16)) (zd _ (16+(q-16))));rw[M];rw[u];have h:=aF.set (W:=C.drewN d) r q (z+(gk x (-7)^^^gk x (-18)^^^x>>>3)+H+(gk y (-17)^^^gk y (-19)^^^y>>>10));have Q:((x.toNat:Int)/(8:Int))=((x>>>3).toNat:Int):=wE x 3 8 L;have R:((y.toNat:Int)/(1024:Int))=((y>>>10).toNat:Int):=wE y 10 1024 L;rw[Q,R,gj,gj,gj,gj,Db];exact h
  case measure=>simp[jm];omega
 have d:q=64:=Y;have B:jc (aF wr w.heap.size 309 (eC b 48)):=by
  have h:=f;rw[d]at h;exact h
 have bw:=ak ((q:Int)<64);clear f d;have d:jc (aF wr g 279 s):=(m.block _ (by show g≠_;omega)).trans ((HB.block _ br).trans HG);have l:s=[s.getD 0 0,s.getD 1 0,s.getD 2 0,s.getD 3 0,s.getD 4 0,s.getD 5 0,s.getD 6 0,s.getD 7 0]:=by
  match s,hs with
  |[a0,a1,a2,a3,a4,a5,a6,a7],_=>rfl
 have r:=d.cell (i:=0) Y;have u:=d.cell (i:=1) Y;have v:=d.cell (i:=2) Y;have C:=d.cell (i:=3) Y;have F:=d.cell (i:=4) Y;have H:=d.cell (i:=5) Y;have K:=d.cell (i:=6) Y;have M:=d.cell (i:=7) Y;generalize s.getD 0 0=s0 at r l;generalize s.getD 1 0=s1 at u l;generalize s.getD 2 0=s2 at v l;generalize s.getD 3 0=s3 at C l;generalize s.getD 4 0=s4 at F l;generalize s.getD 5 0=s5 at H l;generalize s.getD 6 0=s6 at K l;generalize s.getD 7 0=s7 at M l;have E:=O l;clear l
 go_upto_region 12 with fail
 obtain⟨z,h⟩:=J (#[I jf s0.toNat,I jf s1.toNat,I jf s2.toNat,I jf s3.toNat,I jf s4.toNat,I jf s5.toNat,I jf s6.toNat,I jf s7.toNat]);rw[<-h];have f:(s.map v32).toArray=z:=by rw[E,h];rfl
 have U:=O f;clear f h E r u v C F H K M;have C:wr.heap.size=w.heap.size+1:=m.size.trans bu;have K:jd w w wr:=HB.trans (m.below (jn _));have h:aF (wr.alloc (jb z 279)) wr.heap.size 279 (gR s (eC b 48) 0):=by
  have:=jt wr (jb z 279);show _ =T (Obj.cells (s.map v32).toArray 279 (0,0));rw[U];exact this
 have r:aF (wr.alloc (jb z 279)) w.heap.size 309 (eC b 48):=(jq _ _ _ Y).trans B;have u:aF (wr.alloc (jb z 279)) g 279 s:=(jq _ _ _ Y).trans d;have v:jd w w (wr.alloc (jb z 279)):=K.alloc Y _;obtain⟨F,M⟩:=J (wr.alloc (jb z 279));rw[<-M]at h r u v⊢;obtain⟨H,Q⟩:=J wr.heap.size;rw[<-Q]at h C⊢;have bA:w.heap.size<H:=Y;have bf:=O h;have bg:=O r;have V8:=O u;have Qk:=O v;clear h r u v M Q C K U d B m;have bh:=O (nQ b 48);have d:mQ s b=gI s (gR s (eC b 48) 64) 8:=rfl;have au:=O d;clear d;generalize eC b 48=m at bf bg bh au
 go_wp2_with fail
 go_loopw [69] (λa K=>∃r:Nat,a=N je r/\r<=64/\jc (aF K H 279 (gR s m r))/\jc (jd H F K)) (λa _=>(64-jm a).toNat)
 case atStart=>exact⟨0,rfl,by omega,bf,jz _ _⟩
 obtain⟨r,rfl,hr,h,C⟩:=hrel
 by_cases WR:r<64
 ·have bB:=aj ((r:Int)<64)
  have X:jc (gR s m (r+1)=oE (gR s m r) (kf.getD r 0) (m.getD r 0)):=O rfl;have d:=O (DI s m r hs);generalize gR s m r=V at h X d;have S7:wr.cell? ⟨w,r,ic⟩=T (N jg (m.getD r 0).toNat):=fi (bg.cell (by rw[bh];exact WR)) (C.block _ bA);have aa:wr.cell? ⟨3,r,ic⟩=T (N jg (kf.getD r 0).toNat):=
   fi (fi (HT r WR) (Qk.block _ bs)) (C.block _ (by show 3<H;omega))
  generalize kf.getD r 0=M at aa X;generalize m.getD r 0=Q at S7 X;have UK:=O aa;have ad:=O S7;have B:=h.cell (i:=0) (by rw[d];decide);have c1:=h.cell (i:=1) (by rw[d];decide);have c2:=h.cell (i:=2) (by rw[d];decide);have R:=h.cell (i:=4) (by rw[d];decide);have c5:=h.cell (i:=5) (by rw[d];decide);have c6:=h.cell (i:=6) (by rw[d];decide);have c7:=h.cell (i:=7) (by rw[d];decide);have u:=N3 V M Q;have f:=M9 V;generalize V.getD 0 0=v0 at B u f;generalize V.getD 1 0=v1 at c1 u f;generalize V.getD 2 0=v2 at c2 u f;generalize V.getD 4 0=v4 at R u f;generalize V.getD 5 0=v5 at c5 u f;generalize V.getD 6 0=v6 at c6 u f;generalize V.getD 7 0=v7 at c7 u f;have HP:=O u;have U:=O f;clear u f
  go_upto_region 15 with fail
  go_quiet (exact Calls.quiet_of_same (Mg _ _))
  simp only[gj,BQ,Db,iE];rw[<-HP];have ba:jc (aF (wr.drewN nq) H 279 V):=h;have bb:jc (jd H F (wr.drewN nq)):=C.trans ⟨rfl,rfl,rfl,jn _,λ_ _=>rfl⟩;obtain⟨u,v⟩:=J (wr.drewN nq);rw[<-v]at ba bb⊢;have B:u.cell? ⟨H,0,ic⟩=T (N jg v0.toNat):=by rw[v];exact B
  have c1:u.cell? ⟨H,1,ic⟩=T (N jg v1.toNat):=by rw[v];exact c1
  have c2:u.cell? ⟨H,2,ic⟩=T (N jg v2.toNat):=by rw[v];exact c2
  clear v h C R c5 c6 c7 UK ad aa S7
  go_upto_region 16 with fail
  go_quiet (exact Calls.quiet_of_same (LX _ _))
  simp only[bor,BQ,iE];rw[<-U];have aa:jc (aF (u.drewN nq) H 279 V):=ba;have bc:jc (jd H F (u.drewN nq)):=bb.trans ⟨rfl,rfl,rfl,jn _,λ_ _=>rfl⟩;obtain⟨ad,v⟩:=J (u.drewN nq);rw[<-v]at aa bc⊢;clear v ba bb B c1 c2
  go_upto_region 17 with fail
  have ba:ad.drew.heap[H]?=T (jb (V.map v32).toArray 279 (0,0)):=aa.out;have bb:∀(j:Nat) (v:ih),((V.take 7).map v32)[j]?=T v->ad.drew.cell? ((⟨H,0,ic⟩:jA).add j)=T v:=by
   intro j v D;have bk:j<7:=by
    have:=(jW.1 D).1;simp at this;omega
   have RS:j<V.length:=by rw[d];omega
   rw[BG,jR,aF.cell (W:=ad.drew) aa RS];simp[bk,RS]at D;simp[<-D,v32,RS,jF]
  have bk:jc (jd H F ad.drew):=bc.trans ⟨rfl,rfl,rfl,jn _,λ_ _=>rfl⟩;have VZ:=O ba;have bl:=O bb;have D:((V.take 7).map v32).length=7:=by simp[d.out]
  have bm:=O D;have bn:1+((V.take 7).map v32).length<=(V.map v32).length:=by rw[D];simp[d.out]
  have bo:=O bn;have YJ:=O (M8 (V.take 7));clear ba bb D bn
  go_region_law (refine step_copy_splice rfl (.tmp 116) (.tmp 117) 313 313 rfl 247 underlying313 rfl (T ⟨H,1,ic⟩) (T ⟨H,0,ic⟩) 7 7 7 8 (by simp[Act.eval,Act.put]) (by simp[Act.eval,Act.put]) H 1 (V.map v32) 279 VZ ((V.take 7).map v32) (by rw[bm];rfl) (λ_=>⟨rfl,_,rfl,bl⟩) bo YJ H F bk (jn _) ?_;intro w4 ba SN)
  have D:aF w4 H 279 (shR V):=by
   have e:splice (V.map v32) 1 ((V.take 7).map v32)=(shR V).map v32:=by simp[splice,shR,List.map_take,List.map_drop]
   show w4.heap[_]?=_;rw[ba,e]
  have Se:=O D;have Qt:=O SN;have E:=O (Fs V d);have R:=D.cell (i:=4) (by rw[E];decide);have f4:=D.frozen 4;have f0:=D.frozen 0;have B:=D.cell (i:=0) (by rw[E];decide);clear D ba SN YJ bo bm bl VZ bc bk aa;have aa:oE V M Q=((shR V).set 4 ((shR V).getD 4 0+pR V M Q)).set 0 (pR V M Q+qR V):=rfl;have D:=O aa;clear aa;generalize shR V=SV at Se R B D;generalize aa:SV.getD 4 0=s4 at R D;generalize SV.getD 0 0=s0 at B;generalize pR V M Q=pp at D⊢;generalize qR V=qq at D⊢
  go_wp2
  go_roundw
  case rel=>
   refine⟨r+1,by go_num,by omega,?_,?_⟩
   ·rw[X,D]
    have h1:=Se.set 4 (s4+pp);have h2:=h1.set 0 (pp+qq);simp only[iE];exact h2
   exact(Qt.setCell (jn _) _).setCell (jn _) _
  case measure=>simp[jm];omega
 have j:r=64:=Y;have v:jc (aF wr H 279 (gR s m 64)):=j▸h;clear h j;have bB:=ak ((r:Int)<64);have d:=O (DI s m 64 hs);generalize gR s m 64=V at v d au;have D:jc (aF wr g 279 (gI s V 0)):=(C.block _ (by show g<H;omega)).trans V8;obtain⟨j,rfl⟩:∃j:A,j=wr:=⟨_,rfl⟩
 go_wp2_with fail
 go_loopw [129] (λa K=>∃i:Nat,a=N je i/\i<=8/\jc (aF K g 279 (gI s V i))/\jc (aN g j K)) (λa _=>(8-jm a).toNat)
 case atStart=>exact⟨0,rfl,by omega,D,aN.refl _ _⟩
 obtain⟨i,rfl,Q,a,h⟩:=hrel
 by_cases R:i<8
 ·have K:jc (aF wr H 279 V):=(h.block _ (by show H≠g;omega)).trans v
  have M:=a.cell (i:=i) (by rw[By];omega);have B:=K.cell (i:=i) (by rw[d];omega);have bd:=a.frozen i;have u:jc (gI s V (i+1)=(gI s V i).set i ((gI s V i).getD i 0+V.getD i 0)):=O rfl;generalize(gI s V i).getD i 0=x at M u;generalize V.getD i 0=y at B u
  go_upto_region 24 with fail
  go_region
  rw[iE x y]
  go_wp2
  go_roundw
  case rel=>
   refine⟨i+1,by go_num,by omega,?_,?_⟩
   ·rw[u,iE];exact aF.set (W:=wr) a _ _
   exact h.trans (aN.trans (aN.setCell _ _ _ _) ⟨rfl,rfl,rfl,rfl,λ_ _=>rfl⟩)
  case measure=>simp[jm];omega
 have u:i=8:=Y;have x:jc (aF wr g 279 (mQ s b)):=by rw[au];exact u▸a
 clear a u
 go_wp2
 go_end0
 refine⟨rfl,x,λk hk a=>?_,?_⟩
 ·exact(h.block k a).trans ((C.block k Y).trans (Qk.block k hk))
 exact((Qk.mono (km _)).trans (C.mono (km _))).trans (h.below (km _))
structure aD(g B:Nat)(w w':A):Prop where
 os:w'.os=w.os
 tape:w'.tape=w.tape
 output:w'.output=w.output
 size:w.heap.size<=w'.heap.size
 block:∀k,k<B->k≠g->w'.heap[k]?=w.heap[k]?
theorem aD.refl(g B:Nat)(w:A):aD g B w w:=⟨rfl,rfl,rfl,jn _,λ_ _ _=>rfl⟩
theorem aD.trans{g B d:Nat}{a b c:A}(h:aD g B a b)(k:aD g d b c)(j:B<=d):aD g B a c:=
 ⟨k.os.trans h.os,k.tape.trans h.tape,k.output.trans h.output,j0 h.size k.size,λi f e=>(k.block i Y e).trans (h.block i f e)⟩
theorem aD.below{g B n:Nat}{w w':A}(h:aD g B w w')(a:n<=g)(b:n<=B):jd n w w':=
 ⟨h.os,h.tape,h.output,h.size,λk hk=>h.block k Y Y⟩
theorem aD.of_below{g B:Nat}{w w':A}(h:jd B w w'):aD g B w w':=
 ⟨h.os,h.tape,h.output,h.size,λk hk _=>h.block k hk⟩
theorem aN.but{g:Nat}{w w':A}(h:aN g w w')(B:Nat):aD g B w w':=
 ⟨h.os,h.tape,h.output,ms h.size.symm,λk _ a=>h.block k a⟩
def fx(s:List (BitVec 32))(l:LBy):Nat->List (BitVec 32)
 |0=>s
 |k+1=>mQ (fx s l k) ((l.drop (64*k)).take 64)
theorem sk(s l k)(h:s.length=8):(fx s l k).length=8:=by induction k with
 |zero=>exact h
 |succ k a=>exact Hd _ _ a
theorem BU(g a o n c:Nat)(s:List (BitVec 32))(b:LBy)(d:s.length=8)(f:b.length=64)(i:64<=n)(k:n<=c)(w:A)
 (l:aF w g 279 s) (m:∀j,j<64->w.cell? ⟨a,o+j,ic⟩=T (N jo (b.getD j 0).toNat)) (j:dJ w):
 jj ja 187 #[jy (T ⟨g,0,ic⟩),ji (T ⟨a,o,ic⟩) n c] w λe w'=>
  e=jh (jB #[])/\aF w' g 279 (mQ s b)/\aD g w.heap.size w w':=
 (Od g a o n c s b d f i k w l m j).mono λe w' h=>⟨h.1,h.2.1,h.2.2.2.os,h.2.2.2.tape,h.2.2.2.output,h.2.2.2.size,h.2.2.1⟩
def eI:List (BitVec 32):=[1779033703,3144134277,1013904242,2773480762,1359893119,2600822924,528734635,1541459225]
def fz(w:A):Prop:=Lib.TabIs ja w "chartroom/digest.start" .u32 (eI.map λx=>(x.toNat:Int))
theorem K6:ja.globalNamed "chartroom/digest.start" =T 1:=by kernel_rfl
theorem fz.cell{w:A}(h:fz w)(t:Nat)(a:t<8):w.cell? ⟨1,t,ic⟩=T (N jg (eI.getD t 0).toNat):=by
 have:=Lib.TabIs.cell h K6 t (by simpa [eI]using a);rw[this];have b:t<eI.length:=a;simp[b,jF]
def gY(n:Nat):Nat:=if 55<n%64 then 128 else 64
def lR(l:LBy):LBy:=(splice (jX 128 0) 0 (l.drop (64*(l.length/64)))).set (l.length%64) 0x80
def mG(l:LBy):LBy:=gW (lR l) (gY l.length-8) 8 (jH 64 (l.length*8)) 8
def dz(s:List (BitVec 32)):Nat->LBy
 |0=>jX 32 0
 |i+1=>gW (dz s i) (4*i) 4 ((s.getD i 0).setWidth 64) 4
theorem Ab(s i):(dz s i).length=32:=by induction i with
 |zero=>simp[dz]
 |succ i a=>simp[dz,yh,a]
def cW(l:LBy):LBy:=dz (fx (fx eI l (l.length/64)) (mG l) (gY l.length/64)) 8
theorem kO(l):(cW l).length=32:=Ab _ _
theorem BD(l:LBy):(lR l).length=128:=by
 unfold lR;rw[List.length_set,length_splice _ _ _ (by simp;omega)];simp
theorem PQ(l:LBy):(mG l).length=128:=by rw[mG,yh,BD]
theorem zh(l:LBy)(k:Nat)(h:64*k+64<=l.length):((l.drop (64*k)).take 64).length=64:=by simp;omega
theorem DT(l:LBy)(k j:Nat)(h:j<64):((l.drop (64*k)).take 64).getD j 0=l.getD (64*k+j) 0:=by
 simp[jF,h]
def lenOf:ih->Nat
 | .slice _ n _=>n
 |_=>0
theorem rZ{P:jw}(t e:jk)(a:P.underlying t=T (.slice e))(b:∀w,(sizeOf e).run P w=.ok 1 w)(g o n c h:Nat)(d:h<=c)(f:0<c)(W:A):
 (Instr.sliceAt t (ji (T ⟨g,o,ic⟩) n c) ic (T (N je (h:Int))) ic).run P W=.ok (ji (T ⟨g,o,ic⟩) h c) W:=by
 have he:P.elem t=e:=by simp[Program.elem,a]
 rw[q4 W t _ _ _ _ (by rw[he];exact a),run_slice_h W t _ n c (by rw[he];exact a) .i64 _ Y Y,he];simp[b,Result.andThen,sliced,Addr.add]
 try(rw[if_neg Y])
 try(split<;>simp[*])
theorem Dx{P:jw}(t e:jk)(a:P.underlying t=T (.slice e))(b:∀w,(sizeOf e).run P w=.ok 1 w)(g o n c l:Nat)(d:l<=n)(f:n<=c):
 ∃p,(0<n-l->p=T ⟨g,o+l,ic⟩)/\∀W,(Instr.sliceAt t (ji (T ⟨g,o,ic⟩) n c) (T (N je (l:Int))) ic ic).run P W=.ok (ji p (n-l) (c-l)) W:=by
 have he:P.elem t=e:=by simp[Program.elem,a]
 refine⟨if c=l then T ⟨g,o,ic⟩else T ⟨g,o+l,ic⟩,λh=>by rw[if_neg Y],λW=>?_⟩;rw[q4 W t _ _ _ _ (by rw[he];exact a),run_slice_l W t _ n c (by rw[he];exact a) .i64 _ Y Y,he];simp[b,Result.andThen,sliced,Addr.add]
 by_cases h:c=l
 ·simp[h]
 simp[h]
theorem GA{P:jw}(t e:jk)(n:Nat)(a:P.underlying t=T (.array n e))(c:∀w,(sizeOf e).run P w=.ok 1 w)(g o l h:Nat)(d:l<=h)(f:h<=n)(i:l<n)(W:A):
 (Instr.sliceAt t (jy (T ⟨g,o,ic⟩)) (T (N je (l:Int))) (T (N je (h:Int))) ic).run P W=.ok (ji (T ⟨g,o+l,ic⟩) (h-l) (n-l)) W:=by
 have he:P.elem t=e:=by simp[Program.elem,a]
 have b:P.arrayLen t=n:=by simp[Program.arrayLen,a]
 rw[run_sliceAt_array_lh W t _ (by rw[he,b];exact a) .i64 .i64 _ _ Y Y (by rw[b];omega)];rw[he,b];simp[c,Result.andThen,slicedAt,Addr.add];rw[if_neg Y]
 split<;>simp[*]
theorem Oe(g o c:Nat)(t:jk)(a:LBy)(x:BitVec 32)(w:A)(h:bp w g t a)(b:o+4<=a.length)(d:4<=c):
 jj ja 188 #[ji (T ⟨g,o,ic⟩) 4 c,N ii x.toNat] w λe w'=>e=jh (jB #[])/\aN g w w'/\bp w' g t (gW a o 4 (x.setWidth 64) 4):=by
 have e:(x.toNat:Int)=((x.setWidth 64).toNat:Int):=by have:=x.isLt;rw[ol,jJ Y]
 rw[e];exact Ao g o c 4 t L a (x.setWidth 64) w h b d
theorem Lg(g o c:Nat)(t:jk)(a:LBy)(n:Nat)(f:n<1000000000)(w:A)(h:bp w g t a)(b:o+8<=a.length)(d:8<=c):
 jj ja 188 #[ji (T ⟨g,o,ic⟩) 8 c,N ii ((n:Int)*8)] w λe w'=>e=jh (jB #[])/\aN g w w'/\bp w' g t (gW a o 8 (jH 64 (n*8)) 8):=by
 have e:(n:Int)*8=((jH 64 (n*8)).toNat:Int):=by rw[oj,jJ Y];simp
 rw[e];exact Ao g o c 8 t L a (jH 64 (n*8)) w h b d
def nJ:LBy:=jX 128 0
theorem JV:madeCells (I .u8 0).cells (128*1)=(nJ.map v8).toArray:=by
 kernel_rfl
theorem fY(l:LBy):∀a∈l.map v8,a.oneCell'=true:=by
 intro a b;obtain⟨x,_,rfl⟩:=j7.1 b
 rfl
theorem IE:(ja.info? 5).map (λi=>(i.zero,i.size,i.bytes))=T (T (N jo 0),1,1):=by kernel_rfl
theorem KG(w:A):(Instr.makeSlice 59 (N je 64) (N je 128)).run ja w=.ok (ji (T ⟨w,0,ic⟩) 64 128) (w.alloc (jb (nJ.map v8).toArray 5)):=by
 obtain⟨a,b,c,d,e⟩:=j1 IE;have h:=run_make (P:=ja) w 59 5 a (N jo 0) jv b c .i64 .i64 64 128 L L (by rw[e];decide) L;rw[d,show((128:Int).toNat*1)=128*1 from rfl,JV]at h;exact h
theorem JX(V:List (BitVec 32))(b:V.length=8)(k:Nat)(hk:k<8)(W:A):
 (Instr.index 279 (jD (V.map v32).toArray) (N je (k:Int))).run ja W=.ok (N jg ((V.getD k 0).toNat:Int)) W:=by
 have c:=underlying279;have agg46:∀w,(isAgg 247).run ja w=.ok false w:=λw=>by go_simp
 have size46:∀w,(sizeOf 247).run ja w=.ok 1 w:=λw=>by go_simp
 have a:V[k]?=T (V.getD k 0):=by simp[b,hk,jF]
 unfold Instr.index;simp only[wq]at a⊢;generalize V[k]?.getD 0=x at a⊢;simp[asIntOf,qZ c,part,agg46,size46,a,hk]
theorem dJ.below{w w':A}{B:Nat}(h:dJ w)(a:jd B w w')(b:w.heap.size<=B):dJ w':=(Lib.tabBelow_of_tabIs h) _ (a.mono b)
theorem rA(v:ih)(l:LBy)(hl:l.length<=1000000)(w:A)(hv:BytesAt w v l)(k:dJ w)(a:fz w):
 jj ja 138 #[v] w λe w'=>e=jh (jD ((cW l).map v8).toArray)/\jd w w w':=by
 obtain⟨p0,c0,rfl,TS,x,t⟩:=hv;obtain⟨g,o,u,i⟩:∃g o,(0<l.length->p0=T ⟨g,o,ic⟩)/\(∀j,j<l.length->g<w.heap.size/\w.cell? ⟨g,o+j,ic⟩=T (N jo (l.getD j 0).toNat)):=by
  rcases ki l.length with b|b
  ·exact⟨0,0,λh=>by omega,λj f=>by omega⟩
  obtain⟨g,o,d,c⟩:=t b;exact⟨g,o,λ_=>d,λj f=>⟨iZ (c j f),c j f⟩⟩
 have TT:=O u;have Tm:=O i;have HN:=O k;have c:=a.cell 0 L;have d:=a.cell 1 L;have m:=a.cell 2 L;have n:=a.cell 3 L;have p:=a.cell 4 L;have q:=a.cell 5 L;have r:=a.cell 6 L;have s:=a.cell 7 L;have F:1<w.heap.size:=iZ c;clear u i x t k a;have a:(eI.map v32).toArray= #[v32 (eI.getD 0 0),v32 (eI.getD 1 0),v32 (eI.getD 2 0),v32 (eI.getD 3 0),v32 (eI.getD 4 0),v32 (eI.getD 5 0),v32 (eI.getD 6 0),v32 (eI.getD 7 0)]:=rfl;have k:eI.length=8:=rfl;have t:cW l=dz (fx (fx eI l (l.length/64)) (mG l) (gY l.length/64)) 8:=rfl;have x:=O t;clear t;generalize eI=b at c d m n p q r s a k x;generalize b.getD 0 0=K at c a;generalize b.getD 1 0=M at d a;generalize b.getD 2 0=Q at m a;generalize b.getD 3 0=R at n a;generalize b.getD 4 0=S at p a;generalize b.getD 5 0=U at q a;generalize b.getD 6 0=X at r a;generalize b.getD 7 0=s7 at s a;have E:=O a;have bo:=O k;clear a k
 go_enter func138,ntmps138
 go_upto_region 2 with fail
 have a:aF ((w.alloc (jb aI 23)).alloc (jb #[I jf K.toNat,I jf M.toNat,I jf Q.toNat,I jf R.toNat,I jf S.toNat,I jf U.toNat,I jf X.toNat,I jf s7.toNat] 279)) (w.heap.size+1) 279 (fx b l 0):=by
  have:=jt (w.alloc (jb aI 23)) (jb #[I jf K.toNat,I jf M.toNat,I jf Q.toNat,I jf R.toNat,I jf S.toNat,I jf U.toNat,I jf X.toNat,I jf s7.toNat] 279);rw[jU]at this;show _ =T (Obj.cells (b.map v32).toArray 279 (0,0));rw[E];exact this
 have t:bp ((w.alloc (jb aI 23)).alloc (jb #[I jf K.toNat,I jf M.toNat,I jf Q.toNat,I jf R.toNat,I jf S.toNat,I jf U.toNat,I jf X.toNat,I jf s7.toNat] 279)) w.heap.size 23 (dz [] 0):=by
  have:=jt w (jb aI 23);exact(jq _ _ _ ar).trans this
 have u:jd w w ((w.alloc (jb aI 23)).alloc (jb #[I jf K.toNat,I jf M.toNat,I jf Q.toNat,I jf R.toNat,I jf S.toNat,I jf U.toNat,I jf X.toNat,I jf s7.toNat] 279)):=
  ⟨rfl,rfl,rfl,by simp;omega,λk hk=>by rw[jq _ _ _ (by simp;omega),jq _ _ _ hk]⟩
 obtain⟨W2,y⟩:=J ((w.alloc (jb aI 23)).alloc (jb #[I jf K.toNat,I jf M.toNat,I jf Q.toNat,I jf R.toNat,I jf S.toNat,I jf U.toNat,I jf X.toNat,I jf s7.toNat] 279));have z:W2.heap.size=w.heap.size+2:=by rw[y];simp
 rw[<-y]at a t u⊢;obtain⟨D,C⟩:=J w.heap.size;have HA:=O a;have HD:=O t;have B:=O u;rw[<-C]at HA HD B z Tm⊢;have bc:=O z;have Zg:=O C;clear a t u y z c d m n p q r s E F C
 go_wp2_with fail
 go_loopw [5] (λv m=>∃(k n c:Nat) (p:Option jA),v=ji p n c/\n<=c/\jc (64*k<=l.length/\n=l.length-64*k/\(0<n->p=T ⟨g,o+64*k,ic⟩))/\jc (aF m (D+1) 279 (fx b l k))/\jc (aD (D+1) (D+2) W2 m)) (λv _=>lenOf v)
 case atStart=>exact⟨0,l.length,c0,p0,rfl,TS,⟨by omega,by omega,TT⟩,HA,aD.refl _ _ _⟩
 obtain⟨k,n,c,p,rfl,bC,d,y,a⟩:=hrel
 by_cases C:64<=n
 ·have hd:=aj (64<=(n:Int))
  go_upto_region 6 with fail
  obtain⟨q1,q2,V⟩:=d.out;obtain rfl:p=T ⟨g,o+64*k,ic⟩:=V Y;have aa:=zh l k Y;have ad:∀j,j<64->wr.cell? ⟨g,(o+64*k)+j,ic⟩=T (N jo (((l.drop (64*k)).take 64).getD j 0).toNat):=λj f=>by
   obtain⟨r1,r2⟩:=Tm (64*k+j) Y;rw[DT l k j f,qe];exact fi r2 ((a.block _ (by show g<_;omega) (by show g≠_;omega)).trans (B.block _ (by show g<_;omega)))
  have RN:=O ad;have bd:=O aa;have al:dJ wr:=HN.below (B.trans (a.below Y Y)) (aw Zg);have bf:=O al;have bg:=O (sk b l k bo);obtain⟨p',au,t⟩:=Dx (P:=ja) 59 5 jv gr g (o+64*k) n c 64 C bC;have bh:=O au;have bI:∀W,(Instr.sliceAt 59 (ji (T ⟨g,o+64*k,ic⟩) n c) ic (T (N je 64)) ic).run ja W=.ok (ji (T ⟨g,o+64*k,ic⟩) 64 c) W:=
   rZ (P:=ja) 59 5 jv gr g (o+64*k) n c 64 Y Y
  replace t:∀W,(Instr.sliceAt 59 (ji (T ⟨g,o+64*k,ic⟩) n c) (T (N je 64)) ic ic).run ja W=.ok (ji p' (n-64) (c-64)) W:=t;clear ad aa al au V q1 q2
  go_wp2_with fail
  refine(BU (D+1) g (o+64*k) 64 c _ _ bg.out bd (jn _) Y _ y.out RN bf).mono ?_;rintro e w' ⟨rfl,u,a1⟩;have a2:=O u;have bk:=O (a.trans a1 (by have:=a.size;have:=bc.out;omega));clear u a1
  go_wp2
  go_roundw
  case rel=>
   have q:=d.out;refine⟨k+1,n-64,c-64,p',rfl,by omega,⟨by omega,by omega,λh=>?_⟩,a2,bk⟩;rw[bh h];congr 2
  case measure=>simp[lenOf];omega
 have r:k=l.length/64/\n=l.length%64:=aw d;have bM:n<64:=Y;have hd:=ak (64<=(n:Int));have E:0<n->p=T ⟨g,o+64*k,ic⟩:=d.2.2;have H:(l.drop (64*k)).length=n:=by have:=d.out;simp;omega
 have a3:lR l=(splice (jX 128 0) 0 (l.drop (64*k))).set n 0x80:=by rw[lR,r.1,r.2]
 have a4:cW l=dz (fx (fx b l k) (mG l) (gY l.length/64)) 8:=by rw[x,r.1]
 have ba:gY l.length=if 55<n then 128 else 64:=by rw[gY,r.2]
 have bq:=O a3;have Q1:=O a4;have z:=O ba;have br:=O E;have F:=O H;have s:=y;have a5:=O (sk b l k bo);clear r E H a3 a4 ba d y x C;generalize fx b l k=y at s Q1 a5;have C:=KG;obtain⟨x,r⟩:=J (nJ.map v8);rw[<-r]at C;have d:=O r;clear r;have ba:jc (D+2<=wr.heap.size):=O (by have:=a.size;have:=bc.out;omega)
 go_upto_region 8 with fail
 clear C;have r:bp (wr.alloc (jb x.toArray 5)) wr.heap.size 5 (jX 128 0):=by
  have:=jt wr (jb x.toArray 5);show _ =T (Obj.cells (nJ.map v8).toArray 5 (0,0));rw[<-d];exact this
 have bb:aF (wr.alloc (jb x.toArray 5)) (D+1) 279 y:=(jq _ _ _ s.lt).trans s;have C:aD (D+1) (D+2) W2 (wr.alloc (jb x.toArray 5)):=a.trans (aD.of_below (g:=D+1) ((jz wr.heap.size wr).alloc (jn _) _)) ba;have H:(wr.alloc (jb x.toArray 5)).heap.size=wr.heap.size+1:=by simp
 obtain⟨W8,bn⟩:=J (wr.alloc (jb x.toArray 5));rw[<-bn]at r bb C H⊢;obtain⟨E,hE⟩:=J wr.heap.size;rw[<-hE]at r H ba⊢;have bs:D+2<=E:=ba.out;have Ry:=O bb;have Rn:=O C;have ZQ:=O H;have bu:∀(j:Nat) (a3:ih),((l.drop (64*k)).map v8)[j]?=T a3->W8.cell? ((⟨g,o+64*k,ic⟩:jA).add j)=T a3:=by
  intro j a3 f;have Vm:j<(l.drop (64*k)).length:=by
   have:=(jW.1 f).1
   simpa using this
  have RS:64*k+j<l.length:=by simp at Vm;omega
  obtain⟨r1,r2⟩:=Tm (64*k+j) RS;rw[BG,qe,fi r2 ((C.block _ (by show g<_;omega) (by show g≠_;omega)).trans (B.block _ (by show g<_;omega)))];simp[RS]at f;simp[<-f,v8,jF,RS]
 have bl:=O bu;have bv:=O (show W8.heap[E]?=T (jb x.toArray 5 (0,0)) by rw[d];exact r);have YJ:=O (fY (l.drop (64*k)));have bw:0+((l.drop (64*k)).map v8).length<=x.length:=by
  have h1:=F.out;rw[d,jQ,h1,jQ];simp[nJ];omega
 have bm:=O bw;have i:((l.drop (64*k)).map v8).length=n:=by rw[jQ];exact F
 have a4:=O i;clear bb C H bu bw i r bn hE a s;obtain⟨RB,a⟩:=J ((l.drop (64*k)).map v8);rw[<-a]at bl YJ bm a4;have bu:=O a;clear a
 go_upto_region 9 with(refine wpList_copy_splice rfl (.tmp 22) (.tmp 23) 59 59 rfl 5 jv rfl (T ⟨E,0,ic⟩) p 64 128 n c ag ag E 0 x 5 bv RB (by rw[a4];exact(Nat.min_eq_left Y).symm) (λh=>⟨rfl,_,br.out (by rw[<-a4];exact h),bl⟩) bm YJ E W8 (jz _ _) (jn _) ?_;intro C s H)
 have a:bp C E 5 (splice (jX 128 0) 0 (l.drop (64*k))):=by
  show C.heap[E]?=_;rw[s,d,bu];simp[splice,nJ,wx,List.map_drop]
 have H9:=O a;have r:=O H;have bb:(splice (jX 128 (0:BitVec 8)) 0 (l.drop (64*k))).length=128:=by rw[length_splice _ _ _ (by rw[F];simp;omega)];simp
 have c9:=a.cell (i:=n) (by rw[bb];omega);have f9:=a.frozen n;clear a s H bb
 go_upto_if 31 with(fail)
 have a:bp (C.setCell ⟨E,n,ic⟩ (N jo 128)) E 5 (lR l):=by rw[bq];exact H9.set n 0x80
 have s:aF (C.setCell ⟨E,n,ic⟩ (N jo 128)) (D+1) 279 y:=(j4 _ _ _ _ (by show D+1≠E;omega)).trans ((r.block _ Y).trans Ry);have H:aD (D+1) (D+2) W2 (C.setCell ⟨E,n,ic⟩ (N jo 128)):=Rn.trans (aD.of_below (g:=D+1) (r.setCell (jn E) _)) bs;have bb:E<(C.setCell ⟨E,n,ic⟩ (N jo 128)).heap.size:=by have:=r.size;have:=ZQ.out;simp;omega
 obtain⟨bK,bw⟩:=J (C.setCell ⟨E,n,ic⟩ (N jo 128));rw[<-bw]at a s H bb⊢;have bn:=O a;have bA:=O s;have YL:=O H;have bB:=O bb;clear a s H bb bw c9 f9 H9 r a4 bm YJ bv bl bu
 go_cut [6] (λv m=>v=ji (T ⟨E,0,ic⟩) (gY l.length) 128/\bK=m)
 case first=>
  by_cases r:55<n
  ·have a:=aj (55<(n:Int))
   rw[a];have s:∀W,(Instr.sliceAt 59 (ji (T ⟨E,0,ic⟩) 64 128) ic (T (N je 128)) ic).run ja W=.ok (ji (T ⟨E,0,ic⟩) 128 128) W:=
    rZ (P:=ja) 59 5 jv gr E 0 64 128 128 Y Y
   go_wp2_with fail
   go_meet
   exact⟨by rw[z,if_pos r],rfl⟩
  have a:=ak (55<(n:Int));rw[a]
  go_wp2_with fail
  go_meet
  exact⟨by rw[z,if_neg r],rfl⟩
 obtain⟨rfl,rfl⟩:=hcut;have H:gY l.length=64\/gY l.length=128:=by rw[z];split<;>simp
 have a:mG l=gW (lR l) (gY l.length-8) 8 (jH 64 (l.length*8)) 8:=rfl;have s:=O a;have R2:=O (PQ l);have bl:=O (BD l);clear a z bq;generalize gY l.length=a at H s Q1⊢;generalize mG l=r at Q1 s R2;generalize lR l=ea at s bn bl;have bw:64<=a:=Y;have bv:a<=128:=Y;have bq:∀W,(Instr.sliceAt 59 (ji (T ⟨E,0,ic⟩) a 128) (T (N je ((a:Int)-8))) ic ic).run ja W=.ok (ji (T ⟨E,a-8,ic⟩) 8 (128-(a-8))) W:=λW=>by
  have h:=uh (P:=ja) 59 5 jv gr E 0 a 128 (a-8) Y Y W;rw[show((a-8:Nat):Int)=(a:Int)-8 by omega,show a-(a-8)=8 by omega,jR]at h;exact h
 have bb:=O H;clear H
 go_wp2_with fail
 refine(Lg E (a-8) (128-(a-8)) 5 ea l.length Y _ bn.out (by rw[bl];omega) Y).mono ?_;rintro e H ⟨rfl,z,bm⟩;rw[<-s]at bm;have VI:=O bm;have Vo:jc (aF H (D+1) 279 (fx y r 0)):=(z.block _ Y).trans bA;have Qy:jc (aD (D+1) (D+2) W2 H):=YL.trans (aD.of_below (g:=D+1) (z.below (jn E))) bs;have bu:E<H.heap.size:=by have:=z.size;have:=bB.out;omega
 have a4:=O bu;clear z bm bu bq bn bA YL bB s bl Ry Rn ZQ d br F ba HA
 go_wp2_with fail
 go_loopw [6] (λv m=>∃(k n c:Nat) (p:Option jA),v=ji p n c/\n<=c/\jc (64*k<=a/\n=a-64*k/\(0<n->p=T ⟨E,64*k,ic⟩))/\jc (aF m (D+1) 279 (fx y r k))/\jc (aD (D+1) H.heap.size H m)) (λv _=>lenOf v)
 case atStart=>exact⟨0,a,128,T ⟨E,0,ic⟩,rfl,bv,⟨by omega,by omega,λ_=>rfl⟩,Vo,aD.refl _ _ _⟩
 obtain⟨d,s,z,p2,rfl,bl,Rr,ba,F⟩:=hrel
 by_cases Rs:0<s
 ·have bn:=aj (0<(s:Int))
  go_upto_region 15 with fail
  obtain⟨q1,q2,V⟩:=Rr.out;obtain rfl:p2=T ⟨E,64*d,ic⟩:=V Y;have aa:=zh r d (by rw[R2];have:=bb.out;omega);have bm:64<=s:=aw bb;have ad:∀j,j<64->wr.cell? ⟨E,64*d+j,ic⟩=T (N jo (((r.drop (64*d)).take 64).getD j 0).toNat):=λj f=>by
   have h1:bp wr E 5 r:=(F.block _ a4.out Y).trans VI;rw[DT r d j f];exact h1.cell (by rw[R2];omega)
  have RN:=O ad;have bd:=O aa;have br:D+1<H.heap.size:=aw a4;have al:dJ wr:=HN.below (B.trans ((Qy.below Y Y).trans (F.below Y Y))) (aw Zg);have bf:=O al;have bg:=O (sk y r d a5);have bI:∀W,(Instr.sliceAt 59 (ji (T ⟨E,64*d,ic⟩) s z) ic (T (N je 64)) ic).run ja W=.ok (ji (T ⟨E,64*d,ic⟩) 64 z) W:=
   rZ (P:=ja) 59 5 jv gr E (64*d) s z 64 Y Y
  obtain⟨p',au,t⟩:=Dx (P:=ja) 59 5 jv gr E (64*d) s z 64 bm bl;have bh:=O au;replace t:∀W,(Instr.sliceAt 59 (ji (T ⟨E,64*d,ic⟩) s z) (T (N je 64)) ic ic).run ja W=.ok (ji p' (s-64) (z-64)) W:=t;clear ad aa al au V q1 q2
  go_wp2_with fail
  refine(BU (D+1) E (64*d) 64 z _ _ bg.out bd (jn _) Y _ ba.out RN bf).mono ?_;rintro e w' ⟨rfl,u,a1⟩;have a2:=O u;have bk:=O (F.trans a1 F.size);clear u a1
  go_wp2
  go_roundw
  case rel=>
   have q:=Rr.out;refine⟨d+1,s-64,z-64,p',rfl,by omega,⟨by omega,by omega,λh=>?_⟩,a2,bk⟩;rw[bh h];congr 2
  case measure=>simp[lenOf];omega
 obtain rfl:s=0:=Y;have V:d=a/64:=by have:=Rr.out;have:=bb.out;omega
 have f:jc (aF wr (D+1) 279 (fx y r (a/64))):=V▸ba;have q:=O (sk y r (a/64) a5);clear ba V Rs;generalize fx y r (a/64)=V at f q Q1;have aa:bp wr D 23 (dz V 0):=(F.block _ (aw a4) Y).trans ((Qy.block _ Y Y).trans HD);have ad:jd D w wr:=B.trans ((Qy.below Y Y).trans (F.below Y (aw a4)));have al:=O aa;have au:=O ad;clear aa ad F Qy HD B Rr VI Vo bb R2 a4 bc a5
 go_upto_region 16 with fail
 refine j8 ?_;refine j9 rfl 279 _ rfl (D+1) rfl 279 (V.map v32).toArray (0,0) _ f.out underlying279 rfl (by rw[jO,jQ,q];rfl) ?_;have B:∀(k:Nat) (hk:k<8) (W:A),(Instr.index 279 (jD (V.map v32).toArray) (N je (k:Int))).run ja W=.ok (N jg ((V.getD k 0).toNat:Int)) W:=λk hk W=>JX V q k hk W
 generalize(V.map v32).toArray=bb at B⊢;have ad:=O B;clear B f;obtain⟨B,rfl⟩:∃B:A,B=wr:=⟨_,rfl⟩
 go_wp2_with fail
 go_loopw [54] (λf m=>∃i:Nat,f=N je i/\i<=8/\jc (bp m D 23 (dz V i))/\jc (aN D B m)) (λf _=>(8-jm f).toNat)
 case atStart=>exact⟨0,rfl,by omega,al,aN.refl _ _⟩
 obtain⟨i,rfl,hi,f,aa⟩:=hrel
 by_cases YF:i<8
 ·have a1:=ad i YF
  have m:dz V (i+1)=gW (dz V i) (4*i) 4 ((V.getD i 0).setWidth 64) 4:=rfl;have F:=O m;have a4:=O (Ab V i);have bq:∀W,(Instr.sliceAt 23 (jy (T ⟨D,0,ic⟩)) (T (N je (4*(i:Int)))) (T (N je (4*(i:Int)+4))) ic).run ja W=.ok (ji (T ⟨D,4*i,ic⟩) 4 (32-4*i)) W:=λW=>by
   have h:=GA (P:=ja) 23 5 32 lm gr D 0 (4*i) (4*i+4) Y Y Y W;rw[show 4*i+4-4*i=4 by omega,jR]at h
   simpa using h
  clear m;generalize V.getD i 0=m at a1 F;have a5:=aj ((i:Int)<8)
  go_wp2_with fail
  refine(Oe D (4*i) (32-4*i) 23 (dz V i) m _ f.out (by rw[a4];omega) Y).mono ?_;rintro e w' ⟨rfl,h,u⟩;rw[<-F]at u;have a2:=O u;have ba:=O (aa.trans h);clear h u
  go_wp2
  go_roundw
  case rel=>exact⟨i+1,by go_num,by omega,a2,ba⟩
  case measure=>simp[jm];omega
 have a5:=ak ((i:Int)<8);have h:i=8:=Y;have a1:jc (bp wr D 23 (cW l)):=by rw[Q1];exact h▸f
 clear f h;have m:wr.heap[D]?=T (jb ((cW l).map v8).toArray 23 (0,0)):=a1.out;have t:((cW l).map v8).toArray.size=32:=by rw[jO,jQ,kO]
 have u:((cW l).map v8).toArray.all (·.oneCell')=true:=by
  rw[j5];intro a3 f;exact fY _ a3 (by simpa using f)
 have f:jd w w wr:=by rw[<-Zg];exact au.trans (aa.below (jn _))
 have Rf:=O f;clear f;generalize h:((cW l).map v8).toArray=f at m t u;have HQ:=O h;clear h;have h:=O m;have F:=O t;have Ra:=O u;clear m t u
 go_upto_region 21 with fail
 refine j8 ?_;refine j9 rfl 23 _ rfl D rfl 23 f (0,0) _ h.out lm rfl (by rw[F];rfl) ?_;refine qi rfl λ_ m=>qj 23 _ _ rfl D f rfl rfl 23 f h.out (by rw[F];rfl) rfl Ra (m _ _ ?_)
 rw[du h]
 go_wp2_with fail
 refine mb (v:=jD f) ?_ rfl ?_
 ·exact qk rfl _ _ _ 23 _ (0,0) _ rfl h lm rfl (by rw[F];rfl)
 exact⟨by rw[HQ],Rf⟩
theorem Cz:(ja.info? 23).map (·.size)=T 32:=by kernel_rfl
theorem vJ(w:A)(c a:Array ih)(d:c.size=32)(b:a.size=32)(e:a.all (·.oneCell')=true):
 (storeCells ⟨w,0,ic⟩ a.toList 0).run ja (w.alloc (jb c 23))=.ok () (w.alloc (jb a 23)):=
 run_storeCells_new w _ c a (by rw[Cz,b]) (by rw[d,b]) e
def fE:LBy:=[116,97,103]
def cC(t l:LBy):LBy:=cW (cW t++l)
theorem gs(t l):(cC t l).length=32:=kO _
theorem bp.lt'{W:A}{g:Nat}{t:jk}{v:LBy}(h:bp W g t v):g<W.heap.size:=(jE.1 h).1
theorem dJ.lt{w:A}(h:dJ w):3<w.heap.size:=iZ (h.cell 0 L)
theorem fz.below{w w':A}{B:Nat}(h:fz w)(a:jd B w w')(b:w.heap.size<=B):fz w':=(Lib.tabBelow_of_tabIs h) _ (a.mono b)
def oZ:ByteArray:=⟨#[116,97,103]⟩
def mI(w:A):A:=Lib.bytesWorld w 5 oZ
def uB(w:A):Nat:=grownCap w 3 0 5
theorem F3(w:A):(convert 9 59 (lo ⟨#[116,97,103]⟩)).run ja w=.ok (ji (T ⟨w,0,ic⟩) 3 (uB w)) (mI w):=
 Lib.run_convert_string_bytes (P:=ja) w 9 59 5 oZ lr jv qg
theorem Ho(w:A):BytesAt (mI w) (ji (T ⟨w,0,ic⟩) 3 (uB w)) fE:=by
 refine⟨_,_,rfl,grownCap_ge w 3 0 5,λh=>(by cases h),λ_=>⟨w.heap.size,0,rfl,λj a=>?_⟩⟩;have h:=Lib.bytesWorld_cell w 5 oZ j a;rw[jR];refine h.trans ?_
 match j,a with
 |0,_=>rfl
 |1,_=>rfl
 |2,_=>rfl
theorem Fh(w:A)(B:Nat)(a:B<=w.heap.size):jd B w (mI w):=by
 refine⟨rfl,rfl,rfl,?_,λk hk=>Lib.bytesWorld_at_old w 5 oZ k Y⟩;have:=Lib.bytesWorld_size w 5 oZ;unfold mI;omega
theorem FX(v:ih)(l:LBy)(W:l.length<=900000)(w:A)(y:BytesAt w v l)(a:dJ w)(b:fz w):
 jj ja 111 #[lo ⟨#[116,97,103]⟩,v] w λe w'=>e=jh (jD ((cC fE l).map v8).toArray)/\jd w w w':=by
 have q:=F3;have M:=O y;obtain⟨n,o,rfl,-,-,-⟩:=y;have z:=O a;have B:=O b;clear a b
 go_enter func111,ntmps111
 go_wp2_with fail
 have a:jd w w (w.alloc (jb aI 23)):=(jz _ w).alloc (jn _) _;have f:bp (w.alloc (jb aI 23)) w.heap.size 23 (dz [] 0):=jt w _;have g:(w.alloc (jb aI 23)).heap.size=w.heap.size+1:=by simp
 obtain⟨c,j⟩:=J (w.alloc (jb aI 23));rw[<-j]at a f g⊢;have b:=Ho c;have h:jd w w (mI c):=a.trans (Fh c _ Y);have i:bp (mI c) w.heap.size 23 (dz [] 0):=f.below (Fh c _ (jn _)) Y;rw[g]at b;obtain⟨C,k⟩:=J (uB c);rw[<-k]at b⊢;obtain⟨X,p⟩:=J (mI c);rw[<-p]at b h i⊢;have d:=O h;have m:=O i;clear a f g j k p h i q;refine(rA _ fE L _ b (z.below d (jn _)) (B.below d (jn _))).mono ?_;rintro e w' ⟨rfl,p⟩;have x:bp w' w.heap.size 23 (dz [] 0):=m.below p m.lt';have h:=O x;have q:=ac d p;have i:((cW fE).map v8).toArray.size=32:=by rw[jO,jQ,kO]
 have j:((cW fE).map v8).toArray.all (·.oneCell')=true:=by
  rw[j5];intro r s;exact fY _ r (by simpa using s)
 have t:cC fE l=cW (cW fE++l):=rfl;have u:=kO fE;generalize cW fE=a at i j t u⊢;have k:=O u;have P:=O t;generalize f:(a.map v8).toArray=g at i j⊢;have D:=O f;have E:=O j;clear f j p x b t u;have b:=vJ w' aI g rfl i E;clear m d
 go_upto_region 2 with fail
 clear b;have d:bp (w'.alloc (jb g 23)) w'.heap.size 23 a:=by
  show _ =T (Obj.cells (a.map v8).toArray 23 (0,0));rw[D];exact jt w' _
 have j:jd w w (w'.alloc (jb g 23)):=q.alloc q.size _;have p:bp (w'.alloc (jb g 23)) w.heap.size 23 (dz [] 0):=(jq _ _ _ h.lt').trans h;have Q:w.heap.size≠w'.heap.size:=by have:=h.lt';omega
 obtain⟨m,x⟩:=J w'.heap.size;rw[<-x]at d Q⊢;obtain⟨b,F⟩:=J (w'.alloc (jb g 23));rw[<-F]at d j p⊢;have R:=O d;have t:=O j;have u:=O p;clear d j p F x q h D E i;have d:BytesAt b (ji (T ⟨m,0,ic⟩) 32 32) a:=by
  refine⟨_,32,by rw[k],by rw[k];exact jn _,λh=>(by cases h),λ_=>⟨m,0,rfl,λj i=>?_⟩⟩;rw[jR];exact R.cell i
 have h:BytesAt b (ji n l.length o) l:=M.below t;have S:=O d;have U:=O h;clear d h
 go_wp2_with fail
 have d:jd b b (b.alloc (jb #[ji (T ⟨m,0,ic⟩) 32 32,ji n l.length o] 59)):=(jz _ _).alloc (jn _) _;have j:=O d;clear d;refine(si b.heap.size 2 59 [ji (T ⟨m,0,ic⟩) 32 32,ji n l.length o] [a,l] rfl rfl (by have:=k.out;simp;omega) _ (jt b _) ?_ L).mono ?_
 ·intro i d
  match i,d with
  |0,_=>exact S.below j
  |1,_=>exact U.below j
 rintro e i ⟨D,rfl,d,q⟩;have x:[a,l].flatten=a++l:=by simp
 rw[x]at d;have h:jd b b i:=j.trans (q.mono ar);have E:BytesAt i D (a++l):=BytesAt.of_own d;have F:jd w w i:=t.trans (h.mono t.size);have p:=O F;have H:=O h;clear d q h F x
 go_wp2_with fail
 refine(rA D (a++l) (by have:=k.out;simp;omega) _ E (z.below p (jn _)) (B.below p (jn _))).mono ?_;rintro e h ⟨rfl,d⟩;have F:bp h w.heap.size 23 (dz [] 0):=(u.below H u.lt').below d (by have:=u.lt';have:=H.size;omega);have K:=O F;have V:=ac p d;rw[<-P];have q:((cC fE l).map v8).toArray.size=32:=by rw[jO,jQ,gs]
 have x:((cC fE l).map v8).toArray.all (·.oneCell')=true:=by
  rw[j5];intro r s;exact fY _ r (by simpa using s)
 clear d F E;generalize f:((cC fE l).map v8).toArray=d at q x⊢;have s:=O f;have r:=O q;have E:=O x;clear f q x
 go_wp2_with (refine qi rfl λ_ f=>qj 23 _ _ rfl w.heap.size d rfl rfl 23 _ K.out (by rw[r];rfl) (by rw[r];simp[dz]) E (f _ _ ?_))
 have f:(h.setRow w.heap.size d).heap[w.heap.size]?=T (jb d 23 (0,0)):=setRow_heap _ _ _ _ _ _ K.out;have q:jd w w (h.setRow w.heap.size d):=below_setRow V (jn _) _;generalize h.setRow w.heap.size d=w8 at f q⊢;have x:=O q;have F:=O f;clear f q
 go_wp2_with fail
 refine mb (v:=jD d) ?_ rfl ?_
 ·exact qk rfl _ _ _ 23 _ (0,0) _ rfl F lm rfl (by rw[r];rfl)
 exact⟨by rw[s],x⟩
inductive Val where
 |mk (k n:Int) (s:ByteArray) (l:List Val)
def Val.k:Val->Int| .mk k _ _ _=>k
def Val.n:Val->Int| .mk _ n _ _=>n
def Val.s:Val->ByteArray| .mk _ _ s _=>s
def Val.l:Val->List Val| .mk _ _ _ l=>l
abbrev emS:ByteArray:=⟨#[]⟩
def aK(s:ByteArray):LBy:=s.data.toList.map UInt8.toBitVec
def ofB(l:LBy):ByteArray:=⟨(l.map UInt8.ofBitVec).toArray⟩
theorem ng(l:LBy):aK (ofB l)=l:=by
 have e:(UInt8.toBitVec∘UInt8.ofBitVec)=id:=funext λb=>rfl
 simp[aK,ofB,e]
theorem wW(s:ByteArray):ofB (aK s)=s:=by
 obtain⟨d⟩:=s;have e:(UInt8.ofBitVec∘UInt8.toBitVec)=id:=funext λb=>rfl
 simp[aK,ofB,e]
theorem eA(s:ByteArray):(aK s).length=s.size:=by
 obtain⟨d⟩:=s;simp[aK,ByteArray.size]
def lF:Nat->Nat->LBy
 |0,_=>[]
 |f+1,a=>if a<128 then [jH 8 a]else jH 8 (a%128+128)::lF f (a/128)
theorem Eo:∀(f g a:Nat),a<f->a<g->lF f a=lF g a
 |0,_,_,h,_=>absurd h (w9 _)
 |_,0,_,_,h=>absurd h (w9 _)
 |f+1,g+1,a,b,c=>by
  rw[lF,lF]
  by_cases h:a<128
  ·rw[if_pos h,if_pos h]
  rw[if_neg h,if_neg h,Eo f g (a/128) Y Y]
def aZ(a:Nat):LBy:=lF (a+1) a
def eW(n:Int):Nat:=if 0<=n then 2*n.toNat else 2*(-(n+1)).toNat+1
def fK(a:Nat):Int:=if a%2=0 then((a/2:Nat):Int)else -((a/2:Nat):Int)-1
theorem BE(n:Int):fK (eW n)=n:=by
 unfold fK eW
 by_cases h:0<=n
 ·rw[if_pos h,if_pos Y];omega
 rw[if_neg h,if_neg Y];omega
mutual
def enc:Val->LBy
 | .mk k n s l=>if k=1 then 1#8::aZ (eW n)else if k=2 then 2#8::(aZ s.size++aK s)else 3#8::(aZ l.length++encs l)
def encs:List Val->LBy
 |[]=>[]
 |x::xs=>enc x++encs xs
end
theorem o5(a b:List Val):encs (a++b)=encs a++encs b:=by
 induction a with
 |nil=>simp[encs]
 |cons x a c=>simp[encs,c]
def wfV:Nat->Val->Prop
 |f,.mk k n s l=>(k=1/\ -9223372036854775808<=n/\n<9223372036854775808/\s=emS/\l=[])\/(k=2/\n=0/\s.size<4611686018427387904/\l=[])\/
  (k=3/\n=0/\s=emS/\l.length<4611686018427387904/\match f with|0=>False|f+1=>∀x∈l,wfV f x)
def bP:Nat->Nat->LBy->Option (Nat×LBy)
 |_,_,[]=>ic
 |f,i,b::l=>if(i=0\/b≠0#8)/\(i<9\/b.toNat<=1)then(if b.toNat<128 then T (b.toNat,l)else
  match f with
  |0=>ic
  |f+1=>(bP f (i+1) l).map λr=>(b.toNat%128+128*r.1,r.2))else ic
def dH(g:LBy->Option (Val×LBy)):Nat->LBy->Option (List Val×LBy)
 |0,l=>T ([],l)
 |n+1,l=>(g l).bind λr=>(dH g n r.2).map λq=>(r.1::q.1,q.2)
def dX(l:LBy):Option (Nat×LBy):=(bP 9 0 l).bind λr=>if r.1<=r.2.length then T r else ic
def bY:Nat->LBy->Option (Val×LBy)
 |_,[]=>ic
 |f,b::l=>
  if b=1#8 then(bP 9 0 l).map λr=>(.mk 1 (fK r.1) emS [],r.2)
  else if b=2#8 then(dX l).map λr=>(.mk 2 0 (ofB (r.2.take r.1)) [],r.2.drop r.1)
  else if b=3#8 then match f with
   |0=>ic
   |f+1=>(dX l).bind λr=>(dH (bY f) r.1 r.2).map λq=>(.mk 3 0 emS q.1,q.2)
  else ic
def dec(l:LBy):Option Val:=(bY 16 l).bind λr=>if r.2=[]then T r.1 else ic
theorem iS{a:Nat}(h:a<128):aZ a=[jH 8 a]:=by unfold aZ;rw[lF,if_pos h]
theorem mX{a:Nat}(h:¬a<128):aZ a=jH 8 (a%128+128)::aZ (a/128):=by unfold aZ;rw[lF,if_neg h,Eo a (a/128+1) (a/128) Y Y]
theorem Om(a:Nat):0<(aZ a).length:=by
 by_cases h:a<128
 ·rw[iS h];simp
 rw[mX h];simp
theorem Bp(r:LBy):∀(f i a:Nat),i+f=9->a<128^(f+1)->(i=0\/0<a)->(f=0->a<=1)->a*2^(7*i)<2^64->bP f i (aZ a++r)=T (a,r)
 |f,i,a,q,s,c,h,k=>by
  by_cases d:a<128
  ·rw[iS d]
   have b:(jH 8 a).toNat=a:=by rw[oj];omega
   have g:i=0\/jH 8 a≠0#8:=by
    rcases c with c|c
    ·exact .inl c
    exact .inr λe=>by rw[e]at b;simp at b;omega
   have j:i<9\/a<=1:=by
    by_cases l:i<9
    ·exact .inl l
    exact .inr (h Y)
   cases f<;>simp only[jV,oi,bP,b,if_pos d,if_pos (And.intro g j)]
  rw[mX d];have b:(jH 8 (a%128+128)).toNat=a%128+128:=by rw[oj];omega
  have g:jH 8 (a%128+128)≠0#8:=λe=>by rw[e]at b;simp at b
  cases f with
  |zero=>exact absurd (h rfl) Y
  |succ f=>
   have t:128^(f+1+1)=128^(f+1)*128:=pz ..;have l:a/128<128^(f+1):=by rw[Nat.div_lt_iff_lt_mul Y];omega
   have hk:2^(7*(i+1))=2^(7*i)*128:=by rw[show 7*(i+1)=7*i+7 by omega,qv]
   have m:a/128*128<=a:=Nat.div_mul_le_self _ _;have j:a/128*2^(7*(i+1))<2^64:=by
    rw[hk,jZ (2^(7*i)) 128,<-qw];exact tx (Nat.mul_le_mul_right _ m) k
   have n:f=0->a/128<=1:=λe=>by
    subst e;have:i=8:=Y;subst this;have:a/128*2^(7*9)<2^64:=j;omega
   have o:=Bp r f (i+1) (a/128) Y l (.inr Y) n j;have p:¬a%128+128<128:=Y;simp only[jV,bP,b,if_neg p];rw[if_pos ⟨.inr g,.inl Y⟩,o];simp only[qV]
   congr 2
   omega
theorem wR(a:Nat)(b:a<2^64)(r:LBy):bP 9 0 (aZ a++r)=T (a,r):=by
 refine Bp r 9 0 a rfl (Nat.lt_trans b L) (.inl rfl) (λh=>absurd h L) (by simpa using b)
theorem o7(n:Int)(a: -9223372036854775808<=n)(b:n<9223372036854775808):eW n<2^64:=by
 unfold eW;split<;>omega
theorem wv(a:Nat)(b:a<4611686018427387904)(r:LBy)(c:a<=r.length):dX (aZ a++r)=T (a,r):=by
 unfold dX;rw[wR a (Nat.lt_trans b L),qW,if_pos c]
theorem AV(x:Val):0<(enc x).length:=by
 obtain⟨k,n,s,l⟩:=x;rw[enc];split
 ·simp
 split<;>simp
theorem oe(l:List Val):l.length<=(encs l).length:=by
 induction l with
 |nil=>simp
 |cons x l a=>have:=AV x;simp[encs];omega
theorem AM{g:LBy->Option (Val×LBy)}(r:LBy):∀(l:List Val),(∀x∈l,∀r,g (enc x++r)=T (x,r))->dH g l.length (encs l++r)=T (l,r)
 |[],_=>rfl
 |x::l,h=>by
  simp only[encs,qf,kl,dH];rw[h x (List.mem_cons_self ..),qW,AM r l (λy a=>h y (List.mem_cons_of_mem _ a))]
  rfl
theorem JH:∀(f:Nat) (x:Val),wfV f x->∀r,bY f (enc x++r)=T (x,r):=by
 intro f
 induction f with
 |zero=>
  rintro⟨k,n,s,l⟩ h r;rw[wfV]at h
  rcases h with⟨rfl,a,b,rfl,rfl⟩|⟨rfl,rfl,a,rfl⟩|⟨-,-,-,-,h⟩
  ·rw[enc,if_pos rfl,jV,bY,if_pos rfl,wR _ (o7 n a b)]
   simp[BE]
  ·rw[enc,if_neg L,if_pos rfl,jV,bY,if_neg L,if_pos rfl,qf,wv _ a _ (by rw[oo,eA];omega)]
   have e:=eA s;simp only[qV];rw[xa e,xc e,wW]
  exact h.elim
 |succ f c=>
  rintro⟨k,n,s,l⟩ h r;rw[wfV]at h
  rcases h with⟨rfl,a,b,rfl,rfl⟩|⟨rfl,rfl,a,rfl⟩|⟨rfl,rfl,rfl,a,h⟩
  ·rw[enc,if_pos rfl,jV,bY,if_pos rfl,wR _ (o7 n a b)]
   simp[BE]
  ·rw[enc,if_neg L,if_pos rfl,jV,bY,if_neg L,if_pos rfl,qf,wv _ a _ (by rw[oo,eA];omega)]
   have e:=eA s;simp only[qV];rw[xa e,xc e,wW]
  rw[enc,if_neg L,if_neg L,jV,bY,if_neg L,if_neg L,if_pos rfl,qf];have e:=oe l;rw[wv _ a _ (by rw[oo];omega)];simp only[qW];rw[AM r l (λx d=>c x (h x d))]
  rfl
theorem Mw(x:Val)(h:wfV 16 x):dec (enc x)=T x:=by
 have:=JH 16 x h [];rw[sg]at this;unfold dec;rw[this]
 rfl
structure Chg where
 k:Int
 d:Int
 p:Int
 v:Int
 c:Int
structure Bx where
 node:Int
 lev:Int
 u:Int
 body:LBy
structure Wl where
 dev:Int
 u:Int
 body:LBy
structure Cmt where
 folder:Int
 epoch:Int
 parent:LBy
 author:Int
 chg:List Chg
 path:List Int
 box:List Bx
 wel:List Wl
 confirm:LBy
 r:Int
 s:Int
structure Mem where
 dev:Int
 since:Int
 ver:Int
structure Grp where
 folder:Int
 epoch:Int
 last:LBy
 mem:List Mem
 tree:List (Int×Int)
def vI(n:Int):Val:=.mk 1 n emS []
def vT(b:LBy):Val:=.mk 2 0 (ofB b) []
def vL(l:List Val):Val:=.mk 3 0 emS l
def Chg.val(x:Chg):Val:=vL [vI x.k,vI x.d,vI x.p,vI x.v,vI x.c]
def Bx.val(x:Bx):Val:=vL [vI x.node,vI x.lev,vI x.u,vT x.body]
def Wl.val(x:Wl):Val:=vL [vI x.dev,vI x.u,vT x.body]
def aB(c:Cmt):List Val:=
 [vI c.folder,vI c.epoch,vT c.parent,vI c.author,vL (c.chg.map Chg.val),vL (c.path.map vI),vL (c.box.map Bx.val),vL (c.wel.map Wl.val),vT c.confirm,vI c.r,vI c.s]
def dY(s:ByteArray)(w:A):A:=Lib.bytesWorld w 5 s
def fL(s:ByteArray)(w:A):Nat:=grownCap w s.size 0 5
theorem tI(s:ByteArray)(w:A):(convert 9 59 (lo s)).run ja w=.ok (ji (T ⟨w,0,ic⟩) s.size (fL s w)) (dY s w):=
 Lib.run_convert_string_bytes (P:=ja) w 9 59 5 s lr jv qg
theorem rJ(s:ByteArray)(w:A):BytesAt (dY s w) (ji (T ⟨w,0,ic⟩) s.size (fL s w)) (aK s):=by
 refine⟨_,_,by rw[eA],by rw[eA];exact grownCap_ge w s.size 0 5,(λh=>(by cases h)),λ_=>⟨w.heap.size,0,rfl,λj a=>?_⟩⟩;rw[eA]at a;have h:=Lib.bytesWorld_cell w 5 s j a;rw[jR];refine h.trans ?_
 congr 3
 have b:j<s.data.toList.length:=by simpa using a
 simp only[aK,jF,qU];rw[xd b]
 rfl
theorem p8(s:ByteArray)(w:A)(B:Nat)(a:B<=w.heap.size):jd B w (dY s w):=by
 refine⟨rfl,rfl,rfl,?_,λk hk=>Lib.bytesWorld_at_old w 5 s k Y⟩;have:=Lib.bytesWorld_size w 5 s;unfold dY;omega
theorem oG(s:ByteArray)(X:s.size<=100000)(v:ih)(l:LBy)(hl:l.length<=900000)(w:A)(z:BytesAt w v l)(a:dJ w)(b:fz w):
 jj ja 111 #[lo s,v] w λe w'=>e=jh (jD ((cC (aK s) l).map v8).toArray)/\jd w w w':=by
 have q:=tI s;have P:=O z;obtain⟨n,o,rfl,-,-,-⟩:=z;have B:=O a;have D:=O b;clear a b
 go_enter func111,ntmps111
 go_wp2_with fail
 have d:jd w w (w.alloc (jb aI 23)):=(jz _ w).alloc (jn _) _;have f:bp (w.alloc (jb aI 23)) w.heap.size 23 (dz [] 0):=jt w _;have g:(w.alloc (jb aI 23)).heap.size=w.heap.size+1:=by simp
 obtain⟨c,k⟩:=J (w.alloc (jb aI 23));rw[<-k]at d f g⊢;have a:=rJ s c;have h:jd w w (dY s c):=d.trans (p8 s c _ Y);have i:bp (dY s c) w.heap.size 23 (dz [] 0):=f.below (p8 s c _ (jn _)) Y;rw[g]at a;have H:=eA s;obtain⟨C,m⟩:=J (fL s c);rw[<-m]at a⊢;obtain⟨W2,p⟩:=J (dY s c);rw[<-p]at a h i⊢;have b:=O h;have j:=O i;clear d f g k m p h i q;have x:=a;clear a;refine(rA _ (aK s) (by rw[eA];omega) _ x (B.below b (jn _)) (D.below b (jn _))).mono ?_;rintro e w' ⟨rfl,m⟩;have y:bp w' w.heap.size 23 (dz [] 0):=j.below m j.lt';have d:=O y;have p:=ac b m;have h:((cW (aK s)).map v8).toArray.size=32:=by rw[jO,jQ,kO]
 have i:((cW (aK s)).map v8).toArray.all (·.oneCell')=true:=by
  rw[j5];intro q r;exact fY _ q (by simpa using r)
 have t:cC (aK s) l=cW (cW (aK s)++l):=rfl;have u:=kO (aK s);generalize cW (aK s)=a at h i t u⊢;have k:=O u;have Q:=O t;generalize f:(a.map v8).toArray=g at h i⊢;have E:=O f;have F:=O i;clear f i m y x t u H;have i:=vJ w' aI g rfl h F;clear j b
 go_upto_region 2 with fail
 clear i;have i:bp (w'.alloc (jb g 23)) w'.heap.size 23 a:=by
  show _ =T (Obj.cells (a.map v8).toArray 23 (0,0));rw[E];exact jt w' _
 have j:jd w w (w'.alloc (jb g 23)):=p.alloc p.size _;have t:bp (w'.alloc (jb g 23)) w.heap.size 23 (dz [] 0):=(jq _ _ _ d.lt').trans d;have R:w.heap.size≠w'.heap.size:=by have:=d.lt';omega
 obtain⟨m,y⟩:=J w'.heap.size;rw[<-y]at i R⊢;obtain⟨b,H⟩:=J (w'.alloc (jb g 23));rw[<-H]at i j t⊢;have S:=O i;have u:=O j;have x:=O t;clear i j t H y p d E F h;have d:BytesAt b (ji (T ⟨m,0,ic⟩) 32 32) a:=by
  refine⟨_,32,by rw[k],by rw[k];exact jn _,λh=>(by cases h),λ_=>⟨m,0,rfl,λj i=>?_⟩⟩;rw[jR];exact S.cell i
 have h:BytesAt b (ji n l.length o) l:=P.below u;have U:=O d;have V:=O h;clear d h
 go_wp2_with fail
 have d:jd b b (b.alloc (jb #[ji (T ⟨m,0,ic⟩) 32 32,ji n l.length o] 59)):=(jz _ _).alloc (jn _) _;have j:=O d;clear d;refine(si b.heap.size 2 59 [ji (T ⟨m,0,ic⟩) 32 32,ji n l.length o] [a,l] rfl rfl (by have:=k.out;simp;omega) _ (jt b _) ?_ L).mono ?_
 ·intro i d
  match i,d with
  |0,_=>exact U.below j
  |1,_=>exact V.below j
 rintro e i ⟨E,rfl,d,t⟩;have y:[a,l].flatten=a++l:=by simp
 rw[y]at d;have h:jd b b i:=j.trans (t.mono ar);have F:BytesAt i E (a++l):=BytesAt.of_own d;have H:jd w w i:=u.trans (h.mono u.size);have p:=O H;have K:=O h;clear d t h H y
 go_wp2_with fail
 refine(rA E (a++l) (by have:=k.out;simp;omega) _ F (B.below p (jn _)) (D.below p (jn _))).mono ?_;rintro e h ⟨rfl,d⟩;have H:bp h w.heap.size 23 (dz [] 0):=(x.below K x.lt').below d (by have:=x.lt';have:=K.size;omega);have M:=O H;have W:=ac p d;rw[<-Q];have t:((cC (aK s) l).map v8).toArray.size=32:=by rw[jO,jQ,gs]
 have y:((cC (aK s) l).map v8).toArray.all (·.oneCell')=true:=by
  rw[j5];intro q r;exact fY _ q (by simpa using r)
 clear d H F;generalize f:((cC (aK s) l).map v8).toArray=d at t y⊢;have F:=O f;have q:=O t;have H:=O y;clear f t y
 go_wp2_with (refine qi rfl λ_ f=>qj 23 _ _ rfl w.heap.size d rfl rfl 23 _ M.out (by rw[q];rfl) (by rw[q];simp[dz]) H (f _ _ ?_))
 have f:(h.setRow w.heap.size d).heap[w.heap.size]?=T (jb d 23 (0,0)):=setRow_heap _ _ _ _ _ _ M.out;have r:jd w w (h.setRow w.heap.size d):=below_setRow W (jn _) _;generalize h.setRow w.heap.size d=w8 at f r⊢;have t:=O r;have y:=O f;clear f r
 go_wp2_with fail
 refine mb (v:=jD d) ?_ rfl ?_
 ·exact qk rfl _ _ _ 23 _ (0,0) _ rfl y lm rfl (by rw[q];rfl)
 exact⟨by rw[F],t⟩
section
open Go.RowKit Go.Shelf
attribute [local go_sem] Oper.semAt_some
def QS:Nat:=2305843009213688668
theorem pG:QS=2305843009213688668:=rfl
def lY(n:Nat)(b:BitVec 8):Nat:=(n*256+b.toNat)%QS
def gJ(l:LBy):Nat:=l.foldl lY 0
theorem Pj(n:Nat)(b:BitVec 8):lY n b<QS:=ob _ L
theorem Ef:∀(l:LBy) (n:Nat),n<QS->l.foldl lY n<QS
 |[],n,h=>h
 |b::r,n,h=>Ef r _ (Pj n b)
theorem ug(l:LBy):gJ l<QS:=Ef l 0 L
theorem H5(l:LBy)(i:Nat)(b:BitVec 8)(h:l[i]?=T b):gJ (l.take (i+1))=lY (gJ (l.take i)) b:=by
 obtain⟨a,e⟩:=jW.1 h;rw[List.take_succ_eq_append_getElem a,e];simp[gJ]
def mO(a l:LBy):Nat:=1+gJ (cC a l)
theorem vZ(a l:LBy):1<=mO a l/\mO a l<QN:=by
 have:=ug (cC a l);unfold mO;rw[pG]at this;unfold QN;omega
theorem Pe(a b:Nat)(f:a<2305843009213688668)(d:b<18446744073709551616)(w:A):
 jj ja 202 #[N ii a,N ii b,N ii 2305843009213688668] w λe w'=>
  ∃(q:Int) (r:Nat),e=jh (jB #[N ii q,N ii r])/\jc (r=(a*18446744073709551616+b)%QS)/\jd w w w':=by
 rcases ki a with rfl|h
 ·refine(DivS.div64_0 b d w).mono ?_
  rintro e w' ⟨q,rfl,c⟩;exact⟨q,_,rfl,O (by rw[qt,jR,pG]),c⟩
 refine(DivS.div64_1 a b h f d w).mono ?_;rintro e w' ⟨q,rfl,c⟩;exact⟨q,_,rfl,O (by rw[pG]),c⟩
def LM(a n:Nat)(w w':A):Prop:=jr w' a 219 (N ii n)/\w.heap.size<=w'.heap.size/\w'.os=w.os/\w'.tape=w.tape/\w'.output=w.output/\∀k,k<w.heap.size->k≠a->w'.heap[k]?=w.heap[k]?
theorem Pi(b:BitVec 8)(n c g:Nat)(w:A)(t:n<QS)(a:jr w c 219 (N ii n))(h:jr w g 219 (N ii 2305843009213688668))(j:c≠g):
 jj ja 236 #[v8 b,jy (T ⟨c,0,ic⟩),jy (T ⟨g,0,ic⟩)] w λe w'=>(∃v,e=jh v)/\LM c (lY n b) w w':=by
 have u:=a.cell;have v:=h.cell;have l:=b.isLt;rw[pG]at t;have o:bits .or .u64 (js.wrap ((n:Int)*256)) (b.toNat:Int)=((n%72057594037927936*256+b.toNat:Nat):Int):=by
  have d:js.wrap ((n:Int)*256)=((n%72057594037927936*256:Nat):Int):=by rw[jY];omega
  rw[d,qh _ _ Y Y,show n%72057594037927936*256=(n%72057594037927936)<<<8 by rw[qb],<-Nat.shiftLeft_add_eq_or_of_lt (b:=b.toNat) (i:=8) l]
 have x:(n:Int)/72057594037927936=((n/72057594037927936:Nat):Int):=Y;obtain⟨p,k⟩:=J (n/72057594037927936);obtain⟨d,q⟩:∃d:Nat,d=n%72057594037927936*256+b.toNat:=⟨_,rfl⟩;rw[<-q]at o;rw[<-k]at x;have y:=O (Pe p d Y Y);have s:jc (p*18446744073709551616+d=n*256+b.toNat):=O Y;have F:=O j;have z:=O a;have r:v8 b=N jo b.toNat:=rfl;rw[r];obtain⟨m,f⟩:=J b.toNat;rw[<-f]at l o s⊢;have B:=O f;have H:(0:Int)<=m:=Y;clear k q j a h r f
 go_enter func236,ntmps236
 go_wp2_with fail
 refine(y _).mono ?_;rintro e j ⟨q,r,rfl,C,a⟩;have h:=z.out;have f:jr j c 219 (N ii n):=(a.block _ h.lt).trans h;have D:=O a;have K:=f.cell;have M:=f.frozen;have E:=O f;clear a u v f h
 go_wp2
 refine bodyPost_end (qY rfl _ _ _) rfl ?_;refine⟨⟨_,rfl⟩,?_⟩;have f:=E.set (N ii r);have h:r=lY n b:=by unfold lY;rw[C,s,B]
 rw[h]at f⊢;have a:=D.out;refine⟨f,by rw[World.size_setCell];exact a.size,a.os,a.tape,a.output,λk hk u=>?_⟩;exact(j4 _ _ _ _ u).trans (a.block k hk)
theorem N5(args:Array ih)(w:A):(ow 236 args).run ja w=.ok (.enter 236 args) w:=by rfl
theorem Gq(a:Array ih)(k:Nat)(v:ih)(hk:k<32)(b:a[k]?=T v)(W:A):
 (Instr.index 23 (jD a) (N je (k:Int))).run ja W=.ok v W:=by
 have c:=lm;have d:(0:Int)<=(k:Int)/\(k:Int)<((32:Nat):Int):=Y;unfold Instr.index;simp[asIntOf,qZ c,part,b,hk]
theorem Oz(d:LBy)(l:d.length=32)(w:A):
 jj ja 200 #[jD (d.map v8).toArray,N ii 2305843009213688668] w λe w'=>e=jh (N ii (gJ d:Nat))/\jd w w w':=by
 have S:0<d.length:=Y;have j:(d.map v8).toArray.size=32:=by rw[jO,jQ,l]
 have a:∀(k:Nat) (b:BitVec 8),d[k]?=T b->∀W:A,(Instr.index 23 (jD (d.map v8).toArray) (N je (k:Int))).run ja W=.ok (v8 b) W:=λk b g W=>by
  have hk:=(jW.1 g).1;exact Gq _ k _ Y (by rw[List.getElem?_toArray,qU,g];rfl) W
 obtain⟨i,c⟩:=J ((d.map v8).toArray);rw[<-c]at a j⊢;have u:=O a;have n:=O l;clear c l a
 go_enter func200,ntmps200
 go_upto_region 2 with fail
 obtain⟨m,f⟩:=J (((w.alloc (jb i 23)).alloc (jb #[N ii 2305843009213688668] 219)).alloc (jb #[N ii 0] 219));obtain⟨a,c⟩:=J w.heap.size;have o:m.heap[a]?=T (jb i 23):=by
  have h:=jt w (jb i 23);rw[f,c];exact(jq _ _ _ (by simp;omega)).trans ((jq _ _ _ ar).trans h)
 have q:jr m (a+1) 219 (N ii 2305843009213688668):=by
  have h:=Boxed.new (w.alloc (jb i 23)) 219 (N ii 2305843009213688668);rw[jU]at h;rw[f,c];exact h.alloc _
 have r:jr m (a+1+1) 219 (N ii (0:Nat)):=by
  have h:=Boxed.new ((w.alloc (jb i 23)).alloc (jb #[N ii 2305843009213688668] 219)) 219 (N ii (0:Nat));rw[jU,jU]at h;rw[f,c];exact h
 have h:jd a w m:=by rw[f,c];exact(((jz _ w).alloc (jn _) _).alloc ar _).alloc (by simp;omega) _
 have s:a+3<=m.heap.size:=by rw[f,c];simp
 rw[<-f,<-c];have x:=O c;have y:=O q;have z:=O r;have B:=O h;have C:=O s;clear f c q r h s;refine j8 ?_;refine j9 rfl 23 _ rfl a rfl 23 i (0,0) _ o lm rfl (by rw[j];rfl) ?_;clear o j
 go_wp2_with fail
 go_loopw [10] (λt wr=>∃k:Nat,t=N je k/\k<=32/\jc (jr wr (a+1+1) 219 (N ii (gJ (d.take k):Nat)))/\jc (jr wr (a+1) 219 (N ii 2305843009213688668))/\jc (jd a w wr)) (λt _=>(32-jm t).toNat)
 case atStart=>exact⟨0,rfl,by omega,O z,y,B⟩
 obtain⟨k,rfl,hk,f,h,o⟩:=hrel
 by_cases U:k<32
 ·have l:=aj ((k:Int)<32)
  obtain⟨b,g⟩:∃b,d[k]?=T b:=by
   have:=n.out;exact⟨_,xd Y⟩
  have s:=u k b g;have c:=O (Pi b (gJ (d.take k)) (a+1+1) (a+1) wr (ug _) f h Y);have t:=O (H5 d k b g);have D:qd (v8 b)=true:=rfl;clear g;generalize v8 b=V at s c D;have q:=N5
  go_wp2_with fail
  refine(c).mono ?_;rintro e X ⟨⟨v,rfl⟩,j⟩;have E:=O j;clear j c q
  go_wp2_with fail
  go_roundw
  case rel=>
   obtain⟨F,H,K,M,P,q⟩:=E.out;have r:=h.out;have Q:=r.lt;have c:=o.out;refine⟨k+1,rfl,by omega,O (by rw[t];exact F),O ((q _ Q Y).trans r),O ⟨K.trans c.os,M.trans c.tape,P.trans c.output,j0 c.size H,λj R=>?_⟩⟩;exact(q j (by have:=c.size;have:=C.out;omega) Y).trans (c.block j R)
  case measure=>simp only[jm];omega
 have l:=ak ((k:Int)<32);obtain rfl:k=32:=Y;have c:=f.out;rw[List.take_of_length_le (by rw[n];omega)]at c;have t:=c.cell;have D:=c.frozen;have j:=O c;clear c f
 go_wp2_with fail
 obtain⟨f,c⟩:=J (wr.setCell ⟨a+1+1,0,ic⟩ (N ii (gJ d:Nat)));have q:jr f (a+1+1) 219 (N ii (gJ d:Nat)):=by rw[c];exact j.set _
 have r:jd a w f:=by rw[c];exact qF o.out (p:=⟨a+1+1,0,ic⟩) (by simp;omega) _
 rw[<-c];have s:=q.cell;refine mb (v:=N ii (gJ d:Nat)) (by simp[results,results200,go_sem,s]) rfl ?_;exact⟨rfl,by rw[<-x];exact r⟩
end
section
open Go.RowKit Go.Shelf
attribute [local go_sem] Oper.semAt_some
theorem AH:(ja.info? 3).map (λi=>(i.zero,i.size,i.bytes))=T (T (N je 0),1,8):=by kernel_rfl
theorem dK.later{α:Type}{P:jw}{g:Nat}{lb:Array ih}{encs:α->Array ih}{a:Nat->Prop}{n₀:Nat}{S b V:List α->Prop}{w w':A}(h:dK P g lb encs a n₀ S b V w)(c:jd w w w'):dK P g lb encs a n₀ S b V w':=
 λl d e W f i j k m=>h l d e W (c.trans (f.mono c.size)) i j k m
theorem IB{gf:Nat}{lb:Array ih}(a:∀args w,(ow gf args).run ja w=.ok (.enter gf args) w){m:Nat->Prop}{n₀:Nat}{S F V:List Int->Prop}{w:A}
 (b:dK ja gf lb (λx:Int=>#[N je x]) m n₀ S F V w) (H:n₀<=w.heap.size) (q:∀k,m k->k<w.heap.size) (c:∀d,V d->d.length<=1000000) (d:Nat) (o:d<=w.heap.size) (M:∀k,m k->d<=k):
 jj ja 218 #[ji ic 0 0,.func (.func gf) #[] lb] w λe w'=>∃v xs,e=jh v/\S xs/\w'.ownsRow w 3 1 v xs.length (xs.map (I .i64))/\jd d w w':=by
 obtain⟨P,Q,R,U,X⟩:=j1 AH;have aa:=O b;have ad:=O a;have HV:=O c;clear b a c;refine(qX (n:=0)).1 ?_;refine xf func218 rfl trivial ?_ rfl;simp only[ntmps218,jO,kl,qy,qz,qA,qB,qC,qD,qE,oi,jV]
 gi_wp2_with fail
 obtain⟨f,a⟩:=J (w.alloc (jb #[ji ic 0 0] 31));have bN:jr f w.heap.size 31 (ji ic 0 0):=by rw[a];exact Boxed.new w _ _
 have r:jd w w f:=by rw[a];exact(jz _ w).alloc (jn _) _
 have a1:w.heap.size+1<=f.heap.size:=by rw[a];simp
 rw[<-a];clear a;refine nO (n:=0) (gf:=gf) (lb:=lb) rfl ad (aa.later r) Y (λ_=>rfl) (λk hk=>by have:=q k hk;omega)
  (λa Ψ W=>kN w.heap.size 31 w.heap.size 3 1 a.length (a.map (I .i64)) (λ_=>True) Ψ W/\(jd d w W/\∀k,Ψ k->d<=k))
  (λ_ _ _ _=>False)
  ((oM f.heap.size w.heap.size 31 w.heap.size 3 1 (λa=>a.length) (λa:List Int=>a.map (I .i64)) (λ_ _=>True)).and (lq _ _ w o Y))
  (λ_=>eZ _ _)
  ⟨⟨_,bN,λh=>by have:=q _ h;omega,qT _ _ _ _,by simp[qQ],trivial⟩,r.mono o,M⟩
  (λx s _ _=>s={tmps:=#[ji ic 0 0,.func (.func gf) #[] lb,jy (T ⟨w,0,ic⟩),jp,ji ic 0 0,N je x,.func (.func gf) #[] lb,N je x,jp,jp,jp,jp,jp],defers:=[]}) (eZ _ _)
  ?assign ?body ?done ?stop
 case assign=>
  intro l a x Ψ t K b _ i
  gi_wp2
  exact i _ _ (jz _ _) b rfl
 case body=>
  rintro l a x Ψ s t ⟨⟨v,b,u,g,y,-⟩,c,z⟩ rfl j K a2 WR;have al:=HV _ j;rw[oo,List.length_singleton]at al;have hc:=b.cell;have p:=O c;have a3:=c.size;clear c j
  gi_wp2_with (gi_at_builtin;refine wpListIn_append_own_at _ rfl _ _ 31 rfl w.heap.size 3 P (N je 0) 1 8 underlying31 Q R U X rfl L _ _ _ rfl (g.alloc _) ⟨t,0,ic⟩ 1 1 [N je x] rfl rfl (cell_one_new _ _ _) (by simp[qd]) (by unfold jL;omega) Y (by simp;omega) ?_;intro B w1 C D a4 E;obtain⟨g',a5,rfl⟩:=ownsRow_succ C;obtain⟨k,au⟩:=oF (B0:=f.heap.size) b L g Y (jn _) u y K C D (by intro j hj;rw[hj]at E;rcases E with h|h;exact .inl h.symm;exact .inr (by simpa using h));have j:jr w1 w.heap.size 31 v:=(b.alloc _).kept D (by have:=b.not_row (e:=3) L g;exact this);have ba:=j.cell;have bb:=j.frozen)
  obtain⟨B,j,b2,b3,b4,b5⟩:=au;refine⟨⟨k.1,k.2.1.mono H,k.2.2⟩,⟨B,j,b2,by simpa using b3,b4,trivial⟩,p.trans (k.2.1.mono o),z⟩
 case done=>
  rintro D xs Ψ W k j ⟨⟨v,b,u,g,y,-⟩,c,z⟩ i;have hc:=b.cell;have p:=O c;clear c
  gi_wp2
  refine⟨by simp,.inl ⟨_,_,rfl,run_takeDeferred i,?_⟩⟩;exact⟨_,results_tmp rfl _ _ _,_,xs,rfl,j,ownsRow_putObj g _ i rfl,p.trans (ie Y)⟩
 intro D c a Ψ W _ _ h;exact h.elim
theorem AP{gf:Nat}{lb:Array ih}(c:∀args w,(ow gf args).run ja w=.ok (.enter gf args) w){b:Nat->Prop}{n₀:Nat}{S j V:List Int->Prop}{w:A}
 (d:dK ja gf lb (λx:Int=>#[N je x]) b n₀ S j V w) (f:n₀<=w.heap.size) (g:∀k,b k->k<w.heap.size) (h:∀a,V a->a.length<=1000000) (a:Nat) (l:a<=w.heap.size) (i:∀k,b k->a<=k):
 jj ja 172 #[.func (.func gf) #[] lb] w λe w'=>∃v xs,e=jh v/\S xs/\w'.ownsRow w 3 1 v xs.length (xs.map (I .i64))/\jd a w w':=by
 have k:=O (IB c d f g h a l i);clear c d f g h i
 go_enter func172,ntmps172
 go_wp2_with fail
 refine k.mono ?_;rintro e i ⟨v,xs,rfl,f,c,d⟩;have g:=O c;have h:=O d;clear c d
 go_wp2
 go_ret;exact⟨v,xs,rfl,f,g,h⟩
end
end Go.Proofs.YthpmekcffpppkaaGreatDoor
