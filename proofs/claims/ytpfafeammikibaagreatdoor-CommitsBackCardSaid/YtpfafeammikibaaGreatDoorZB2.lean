/- Texts of the proof, part 2 of 8 (Vb Ka Va Rf Rg Kb Kc Kd Rt Ro Rx Ca Cb Cc Cd Ce Cf Cg Ch Ci Wa Da Db Qt Dc Dd De Wn Wh Wq Kg). -/
import Derived.Shelf.Small.Bits
import Derived.Shelf.Small.Wraps
import Derived.Shelf.Strconv.Itoa0
import Derived.Shelf.LaysM
import Derived.Shelf.Bytes.Len
import Derived.Shelf.Bytes.TryGrow
import Derived.Shelf.Bytes.GrowSliceCatch
import Derived.Shelf.Bytes.GrowSlice
import Derived.Shelf.Bytes.Reset
import Derived.Shelf.Bytes.Bytes
import Derived.Shelf.Sort.Plain
import Derived.Shelf.Bytes.ResetKept
import Derived.Shelf.Bytes.LenAt
import Derived.Shelf.Bytes.TryGrowAt
import Derived.Shelf.Bytes.GrowRow0At
import Derived.Shelf.Bytes.GrowRowAt
import Derived.Shelf.Bytes.GrowNilAt
import Derived.Shelf.Bytes.GrowAt
import Derived.Shelf.Bytes.WriteAt
import Derived.Shelf.Bits.Mul64
import Derived.Ground.Names2Prog
import Derived.Shelf.Slices.CompactI
import Derived.Shelf.Slices.SearchI
import Derived.Shelf.Slices.Cells
import Derived.Shelf.Slices.In.SortNone
import Derived.Shelf.Bytes.SlEqualAll
import Derived.Shelf.Bytes.Small
import Derived.Test.YtpfafeammikibaaGreatDoorRows
import Derived.Lib.Mul64
import Derived.Laws.Bits64b
import Derived.Lib.Hide
import Derived.Deep.RegionWith
import Derived.BigGuardPart
import Derived.Deep.CutBlock
import Derived.Deep.DeepCutAuto
import Derived.RangeFuncNested
import Derived.RangeFuncLeaves
import Derived.WalkKit
import Derived.Deep.RegionHeld3
import Derived.OrdersIn
import Derived.RangeFuncBound
import Derived.RangeFuncCalls
import Derived.Shelf.Abstract
import Derived.Shelf.RegionOpen
import Derived.OwnWalkIn
import Derived.TacticsInMore
import Derived.LoopNIn
import Derived.LoopIn
import Derived.Maps.AppendAt
import Derived.Deep.AppendLies
import Derived.Below
import Derived.Laws.AppendOwn
import Derived.Laws.AppendOwnNone
import Derived.Deep.MidRow
import Derived.ProofKit
import Derived.Outline
import Derived.Deep.QuietTactic
import Derived.BigQuiet
import Derived.RegionCalls
import Derived.Deep.CutRange
import Derived.RangeFuncOwn
import Derived.RangeFuncBox
import Derived.LoopTactic
import Derived.Laws.CopyOwn
import Derived.Lib.LaidTab
import Derived.Lib.AppendIntMem
import Derived.OwnWalk
import Derived.Great.Walk
import Derived.Great.Ranges
import Derived.Deep.WholeRow
import Derived.Lib.SliceRun
import Derived.Lib.AppendZeros
import Derived.Lib.AppendStr
import Derived.StillTail
import Derived.Deep.Quiet
import Derived.Laws.MakeOwn
import Derived.Lib.ConvBytes
import Derived.Maps.OwnIn
import Derived.Test.YtpfafeammikibaaGreatDoorZB1
namespace Go.Proofs.YtpfafeammikibaaGreatDoor
set_option maxHeartbeats 64000000
set_option maxRecDepth 100000
set_option linter.unusedVariables false
set_option linter.unusedSimpArgs false
open Go.RowKit
open Go.Proofs.Tryz
open Go.Value renaming int->I,oneCell'->pr,ownBlock->qK
open Go.Value renaming int->N
open _root_.Option renaming some->T,none->hF,some->qC,map_some->qO,bind_some->qP
open Go renaming World->A,Value->hH,Calls->jd,TypeId->je,Oper->jf,undef->jj,Boxed->jl,wpOp->jo,Program->jq,Addr->jt,Exit->jv,wpOp_mono->jC,execOp->jE,maxLen->jF,Code->jM,yielded->jN,info_parts->jV,wp_region_lit->j1,wpList_load_row->j3,KeepsFrom->j7,Operand->j8,bodyPost_ret->kw,callFunc->ob,bits_or_u64_nat->qb,wpList_plain->qc,wp_store_row->qd,results_cell_row->qe,wpList_append_own->qf,callsIn_wide->qQ,results_none->qS,run_underlying->qT,run_sliceAt_slice->qU,callsIn_of_wp_marks->wi
open Go.IntKind renaming u64->hK,i64->ih,u32->ja,u8->ji
open Go.Proofs.Tryz renaming prog->hQ
open Go.Obj renaming cells->hU
open Go.RowKit renaming Hid->hZ,Below->ic
open Go.IntKind renaming u32->ii,u64->jm,wrap_u64->jS
open Go.Ending renaming returned->jb
open Go.Value renaming slice->jc,pointer->jr,tuple->ju,agg->jw,string->ki
open Go.Proofs renaming intOf->jg
open _root_.Nat renaming le_refl->jh,mod_eq_of_lt->jD,zero_add->jL,mul_comm->jT,le_trans->jU,eq_zero_or_pos->j4,zero_le->j6,le_of_eq->lo,lt_or_ge->lw,mod_lt->mb,pow_succ->ol,shiftLeft_eq->o4,add_assoc->pz,two_pow_add_eq_or_of_lt->qg,mul_add_mod->qh,zero_mul->qk,mul_mod->ql,pow_add->qm,mul_assoc->qn,reduceAdd->qt,reduceSub->qu,lt_of_lt_of_le->qA,shiftRight_eq_div_pow->qG,mod_two_eq_zero_or_one->qZ,div_le_self->q5,pow_le_pow_right->q8,lt_of_le_of_lt->r3,not_lt_zero->sv
open Go.RowKit.Below renaming heap_alloc->jk,refl->js,heap_setCell->jX,setCell->qz
open Go.World renaming alloc_heap_new->jn,cell?->jJ,size_alloc->jO,putObj_heap_other->jW,putObj->oj,grownBy->oo,setCell->qJ,ownsRow_nil->qM,putObj_heap_same->qV,frozen?->sg
open Go.Proofs.Tryz renaming underlying32->jp,func218->jG,ntmps218->jH,underlying23->j9,underlying9->kl,func187->km,ntmps187->kn,underlying312->oi,underlying5->qa
open _root_.Array renaming getElem?_eq_some_iff->jy,all_eq_true_iff_forall_mem->jY,replicate->jZ,getD_eq_getD_getElem?->lv,getElem?_eq_none->qi,replicate_succ->qv,replicate_zero->qw,getElem?_modify->qI,setIfInBounds_comm->qW
open _root_.List renaming getD->jz,size_toArray->jI,length_map->jK,cons_append->jP,getElem?_eq_some_iff->jQ,replicate->jR,mem_map->j0,length_cons->j5,nil_append->ms,length_append->n0,map_cons->ow,set->pa,append_assoc->p6,length_nil->qs,push_toArray->qx,append_toArray->qy,eq_nil_of_length_eq_zero->qB,map_toArray->qD,map_nil->qE,map_map->qL,getElem?_map->qN,all_eq_true->qX,mem_range->qY,append_nil->q6,getD_eq_getElem?_getD->sh,flatten_append->sn,map_append->sq,take_left'->sx,drop_left'->tx,getElem?_eq_getElem->uy
open _root_.Bool renaming and_eq_true->jA,or_eq_true->qj
open _root_.BitVec renaming ofNat->jB,toNat_ofNat->mz,toNat_setWidth->nn,toNat_ushiftRight->qF,toNat_shiftLeft->qH,ofInt->q9,toNat_xor->ri,toNat_or->rn,toNat_add->rv,rotateLeft_def->r4
open _root_.Int renaming toNat_natCast->qo,eq_ofNat_of_zero_le->q4
section
open Go.Shelf
def Tryzx.laysM180_ren:Go.Shelf.Ren:=⟨fun|180=>104|251=>154|252=>155|181=>193|184=>194|290=>195|324=>225|n=>n,fun|130=>240|37=>32|3=>3|75=>186|0=>0|93=>182|91=>180|131=>101|4=>4|20=>20|5=>5|80=>229|9=>9|n=>n,fun|14=>2|n=>n⟩
theorem Tryzx.laysM180:Go.Proofs.LaysM.n180 hQ Tryzx.laysM180_ren:={
 mixed:=by kernel_rfl
 f180:=func104.trans (congrArg T ae)
 f181:=func193.trans (congrArg T ae)
 f184:=func194.trans (congrArg T ae)
 f251:=func154.trans (congrArg T ae)
 f252:=func155.trans (congrArg T ae)
 f290:=func195.trans (congrArg T ae)
 f324:=func225.trans (congrArg T ae)
 t0:=underlying0
 a0:=Tryz.isAgg0
 z0:=Tryz.sizeOf0
 v0:=Tryz.zeroValue0
 t3:=underlying3
 a3:=Tryz.isAgg3
 z3:=Tryz.sizeOf3
 v3:=Tryz.zeroValue3
 t4:=underlying4
 a4:=Tryz.isAgg4
 z4:=Tryz.sizeOf4
 v4:=Tryz.zeroValue4
 t20:=underlying20
 a20:=Tryz.isAgg20
 z20:=Tryz.sizeOf20
 v20:=Tryz.zeroValue20
 t37:=jp
 a37:=Tryz.isAgg32
 z37:=Tryz.sizeOf32
 v37:=Tryz.zeroValue32
 t75:=underlying186
 a75:=Tryz.isAgg186
 z75:=Tryz.sizeOf186
 v75:=Tryz.zeroValue186
 t91:=underlying180
 a91:=Tryz.isAgg180
 z91:=Tryz.sizeOf180
 v91:=Tryz.zeroValue180
 t93:=underlying182
 a93:=Tryz.isAgg182
 z93:=Tryz.sizeOf182
 v93:=Tryz.zeroValue182
 t130:=underlying240
 a130:=Tryz.isAgg240
 z130:=Tryz.sizeOf240
 v130:=Tryz.zeroValue240
 t131:=underlying101
 a131:=Tryz.isAgg101
 z131:=Tryz.sizeOf101
 v131:=Tryz.zeroValue101
 g14:=by kernel_rfl
 t5:=qa
 a5:=Tryz.isAgg5
 z5:=Tryz.sizeOf5
 v5:=Tryz.zeroValue5
 t9:=kl
 a9:=Tryz.isAgg9
 z9:=Tryz.sizeOf9
 v9:=Tryz.zeroValue9
 t80:=underlying229
 a80:=Tryz.isAgg229
 z80:=Tryz.sizeOf229
 v80:=Tryz.zeroValue229
 i0:=by kernel_rfl
 i3:=by kernel_rfl
 i4:=by kernel_rfl
 i5:=by kernel_rfl
 i9:=by kernel_rfl
 i20:=by kernel_rfl
 i37:=by kernel_rfl
 i75:=by kernel_rfl
 i80:=by kernel_rfl
 i91:=by kernel_rfl
 i93:=by kernel_rfl
 i130:=by kernel_rfl
 i131:=by kernel_rfl
 m14:=by kernel_rfl}
open Go.RowKit in
theorem Tryz.Buffer_Write_at(f:je)(R:Nat->Option hH)(B b q:Nat)(d cs:List hH)(a:jt)(n c:Nat)(w:A)(h:LibA.IsBuffer f R 5 B b q d w)(g:B<=w.heap.size)(i:∀v∈d,v.oneCell'=true)(k:cs.length=n)(l:a.block≠b)(m:∀j v,cs[j]?=T v->w.cell? (a.add j)=T v)(j:∀v∈cs,v.oneCell'=true)(o:d.length+n<=140737488355328):
 jd hQ 104 #[jr (T ⟨b,q,hF⟩),jc (T a) n c] w λe w'=>e=jb (ju #[N ih n,.nilIface])/\LibA.IsBuffer f R 5 B b q (d++cs) w'/\ic B w w'/\Lib.OthersKept 5 (T b) w w':=Any.Buffer_Write_at Tryzx.laysM180 f R B b q d cs a n c w h g i k l m j o
end
theorem maskN(a:Nat)(b:a<18446744073709551616):bits .and .u64 (a:Int) 4294967295=((a%4294967296:Nat):Int):=by
 have h:=bits_and_u64_nat a 4294967295 b Y;have e:a&&&4294967295=a%4294967296:=Nat.and_two_pow_sub_one_eq_mod a 32;rw[e]at h;exact h
theorem divN(a:Nat):(a:Int)/4294967296=((a/4294967296:Nat):Int):=Y
theorem mulN(a b:Nat):(a:Int)*(b:Int)=((a*b:Nat):Int):=(Int.natCast_mul a b).symm
theorem addN(a b:Nat):(a:Int)+(b:Int)=((a+b:Nat):Int):=(Int.natCast_add a b).symm
theorem wrapN(a:Nat)(b:a<18446744073709551616):jm.wrap (a:Int)=(a:Int):=by rw[jS];omega
theorem wrapM(a:Nat):jm.wrap (a:Int)=((a%18446744073709551616:Nat):Int):=by rw[jS];omega
theorem yW(x y:Nat)(c:x<18446744073709551616)(d:y<18446744073709551616)(w:A):
 jd hQ 186 #[N hK x,N hK y] w λe w'=>e=jb (ju #[N hK ((x*y/18446744073709551616:Nat):Int),N hK ((x*y%18446744073709551616:Nat):Int)])/\w=w':=by
 obtain⟨g,f,h,i⟩:=Lib.mul64_hi x y c d;have o:=Lib.half_mul_le (a:=x/4294967296) (b:=y/4294967296) Y Y;have p:=Lib.half_mul_le (a:=x/4294967296) (b:=y%4294967296) Y Y;have q:=Lib.half_mul_le (a:=x%4294967296) (b:=y/4294967296) Y Y;have j:x/4294967296*(y/4294967296)<18446744073709551616:=Y;have k:x/4294967296*(y%4294967296)<18446744073709551616:=Y;have l:x%4294967296*(y/4294967296)<18446744073709551616:=Y;have m:x/4294967296*(y/4294967296)+(x/4294967296*(y%4294967296)+x%4294967296*(y%4294967296)/4294967296)/4294967296<18446744073709551616:=Y;have n:x/4294967296*(y/4294967296)+(x/4294967296*(y%4294967296)+x%4294967296*(y%4294967296)/4294967296)/4294967296+((x/4294967296*(y%4294967296)+x%4294967296*(y%4294967296)/4294967296)%4294967296+x%4294967296*(y/4294967296))/4294967296<18446744073709551616:=Y
 go_enter func186,ntmps186
 go_wp2
 simp only[maskN x c,maskN y d,divN,mulN,addN,wrapN _ g,wrapN _ k,wrapN _ f,maskN _ f,wrapN _ l,wrapN _ h,wrapN _ j,wrapN _ m,wrapN _ n,wrapM (x*y)];rw[i];go_ret2;exact⟨rfl,rfl⟩
theorem rb(w:A):jd hQ 220 #[N hK 4611686018427377339] w λe w'=>e=jb (N ih 2)/\w=w':=by
 have a:=λw=>rG 4611686018427377339 G G w
 have e:bitLen (4611686018427377339:Int).toNat=62:=by decide+kernel
 rw[e]at a
 go_enter func220,ntmps220
 go_wp2_with (go_at_call 178;refine(a _).mono ?_;rintro e w' ⟨rfl,rfl⟩)
 go_ret;exact⟨rfl,rfl⟩
theorem fN(q r a d:Nat)(b:q*4294967295+r=a)(c:a*4294967296+d<q*18446744073709509356)(e:r=0):(q-1)*4294967295+(r+4294967295)=a/\a*4294967296+d<(q-1+1)*18446744073709509356:=Y
theorem fH(q r a d:Nat)(b:q*4294967295+r=a)(c:a<18446744073709509356)(e:a*4294967296+d<q*18446744073709509356)(f:¬r=0)(g:q<=4294967297):(q-1)*18446744073709509356<=a*4294967296+d/\a*4294967296+d<(q-1+1)*18446744073709509356:=Y
theorem lB(q r a d:Nat)(b:d<=4294967295)(c:a<18446744073709509356)(e:4294967296<=q):a*4294967296+d<q*18446744073709509356:=Y
theorem lH(q r a d:Nat)(b:q*4294967295+r=a)(c:4294967296*r+d<q*4294925036):a*4294967296+d<q*18446744073709509356:=Y
theorem lK(q r a d:Nat)(b:q*4294967295+r=a)(c:¬4294967296*r+d<q*4294925036):q*18446744073709509356<=a*4294967296+d:=Y
theorem lC(a d:Nat)(b:d<=4294967295)(c:a<18446744073709509356):a/4294967295*4294967295+a%4294967295=a/\a*4294967296+d<(a/4294967295+1)*18446744073709509356:=Y
theorem t_v(a d k v:Nat)(b:k*18446744073709509356<=a*4294967296+d)(c:a*4294967296+d<(k+1)*18446744073709509356)(e:v=a*4294967296+d-k*18446744073709509356):v<18446744073709509356/\v+k*18446744073709509356=a*4294967296+d:=Y
theorem lq(v q r:Nat)(a:v<18446744073709509356)(b:q=v/4294967295)(c:r=v%4294967295):
 (v:Int)/4294967295=(q:Int)/\(v:Int)-(q:Int)*4294967295=(r:Int)/\q<=4294967297/\(q:Int)*4294967295<=(v:Int)/\r<=4294967294:=Y
theorem t_w(a d k v:Nat)(b:v+k*18446744073709509356=a*4294967296+d)(c:v<18446744073709509356):
 jm.wrap (jm.wrap (jm.wrap ((a:Int)*4294967296)+(d:Int))-jm.wrap ((k:Int)*18446744073709509356))=(v:Int):=by
 simp only[jS];omega
theorem oS(c b d l e a k m v z:Nat)(s:b<18446744073709551616)(t:c<4611686018427377339)(f:d=4*c+b/4611686018427387904)(g:l=b*4%18446744073709551616)(h:e=l/4294967296)(i:a=l%4294967296)
 (j:v+k*18446744073709509356=d*4294967296+e) (n:m*18446744073709509356<=v*4294967296+a) (o:v*4294967296+a<(m+1)*18446744073709509356) (p:z=(v*4294967296+a-m*18446744073709509356)/4):
 c*18446744073709551616+b=(k*4294967296+m)*4611686018427377339+z/\z<4611686018427377339/\4*z+m*18446744073709509356=v*4294967296+a:=by
 have q:l=e*4294967296+a:=Y;have r:d*18446744073709551616+l=4*(c*18446744073709551616+b):=Y;clear f g h i;obtain⟨i,f⟩:=J (v*4294967296+a);obtain⟨B,g⟩:=J (c*18446744073709551616+b);obtain⟨K,h⟩:=J (k*4294967296);have u:i+K*18446744073709509356=4*B:=Y;rw[<-f]at n o p;rw[<-f,<-g,<-h];clear j q r f g h;omega
theorem div64_0(a:Nat)(b:a<18446744073709551616)(w:A):
 jd hQ 187 #[N hK 0,N hK a,N hK 4611686018427377339] w λe w'=>
  ∃q:Int,e=jb (ju #[N hK q,N hK ((a%4611686018427377339:Nat):Int)])/\ic w w w':=by
 have c:(0:Int)<=a:=Y
 go_enter km,kn
 go_upto_region 6 with fail
 go_quiet (fail)
 go_wp2
 go_ret2;exact⟨_,rfl,rfl,rfl,rfl,jh _,λ_ _=>rfl⟩
theorem div64_1(f n:Nat)(h0:1<=f)(Ux:f<4611686018427377339)(Tm:n<18446744073709551616)(w:A):
 jd hQ 187 #[N hK f,N hK n,N hK 4611686018427377339] w λe w'=>
  ∃q:Int,e=jb (ju #[N hK q,N hK (((f*18446744073709551616+n)%4611686018427377339:Nat):Int)])/\ic w w w':=by
 obtain⟨a,k⟩:∃a:Nat,a=4*f+n/4611686018427387904:=⟨_,rfl⟩;obtain⟨l,m⟩:∃l:Nat,l=n*4%18446744073709551616:=⟨_,rfl⟩;obtain⟨c,j⟩:∃c:Nat,c=l/4294967296:=⟨_,rfl⟩;obtain⟨d,s⟩:∃d:Nat,d=l%4294967296:=⟨_,rfl⟩;obtain⟨q,t⟩:∃q:Nat,q=a/4294967295:=⟨_,rfl⟩;obtain⟨r,u⟩:∃r:Nat,r=a%4294967295:=⟨_,rfl⟩;have v:bits .and .u64 18446744073709509356 4294967295=4294925036:=by decide+kernel
 have x:bits .or .u64 ((f:Int)*4) ((n:Int)/4611686018427387904)=(a:Int):=by
  have g:(f:Int)*4=((f*4:Nat):Int):=Y;have o:(n:Int)/4611686018427387904=((n/4611686018427387904:Nat):Int):=Y;rw[g,o,qb _ _ Y Y,k];have h:=qg (i:=2) (b:=n/4611686018427387904) Y f;rw[show 2^2*f=f*4 by omega]at h;rw[<-h];omega
 have h:jm.wrap ((n:Int)*4)=(l:Int):=by rw[jS,m];omega
 have y:(l:Int)/4294967296=(c:Int):=Y;have z:bits .and .u64 (l:Int) 4294967295=(d:Int):=by rw[maskN l Y,s]
 have p:a<18446744073709509356:=Y;have V:c<=4294967295:=Y;have W:d<=4294967295:=Y;obtain⟨C,D,o,E,B⟩:=lq a q r p t u;have g:hZ (q*4294967295+r=a/\a*4294967296+c<(q+1)*18446744073709509356):=O (by rw[t,u];exact lC a c V p);have HU:=O k;have HL:=O m;have VV:=O j;have aa:=O s;clear k m j s t u;have ad:=O rb;have j:=ar ((4611686018427377339:Int)<=(f:Int));have k:=ar (f=0);have m:=ar ((f:Int)=0)
 go_enter km,kn
 go_upto_block 0 with(go_at_call 220;refine(ad _).mono ?_;rintro e w' ⟨rfl,rfl⟩)
 clear v x h y z C D j k m
 go_cut [15,16] (λm z H=>∃k:Nat,m=N hK k/\hZ (k*18446744073709509356<=a*4294967296+c/\a*4294967296+c<(k+1)*18446744073709509356)/\w=H)
 case first=>
  go_wp2_with fail
  go_loop [15,16] (λm z=>∃q r:Nat,m=N hK q/\z=N hK r/\q<=4294967297/\r<=4294967295/\hZ (q*4294967295+r=a/\a*4294967296+c<(q+1)*18446744073709509356)) (λm _=>(jg m).toNat)
  case atStart=>exact⟨q,r,rfl,rfl,o,by omega,g⟩
  clear o E B g;have K:=V;have p:=p;obtain⟨q,r,rfl,rfl,o,B,g⟩:=hrel;obtain⟨h,u⟩:=g.out
  by_cases M:4294967296<=q
  ·have P:=ap ((4294967296:Int)<=(q:Int))
   have s:=O (lB q r a c K p M);have t:=O h;clear h u g
   go_upto_region 20 with fail
   by_cases j:r=0
   ·have y:=ar ((4294967296:Int)<=(r:Int)+4294967295)
    go_wp2_with fail
    refine⟨⟨q-1,r+4294967295,?_,?_,by omega,by omega,O (fN q r _ _ t.out s j)⟩,?_⟩
    ·exact congrArg (I .u64) Y
    ·exact congrArg (I .u64) Y
    simp only[jg];omega
   have y:=ap ((4294967296:Int)<=(r:Int)+4294967295)
   go_wp2_with fail
   go_meet
   exact⟨q-1,congrArg (I .u64) Y,O (fH q r _ _ t.out p s j o),rfl⟩
  have P:=ar ((4294967296:Int)<=(q:Int))
  by_cases x:4294967296*r+c<q*4294925036
  ·have Q:=ap ((4294967296:Int)*(r:Int)+(c:Int)<(q:Int)*4294925036)
   have al:1<=q:=Y;have s:=O (lH q r a c h x);have t:=O h;clear h u g x
   go_upto_region 20 with fail
   by_cases j:r=0
   ·have y:=ar ((4294967296:Int)<=(r:Int)+4294967295)
    go_wp2_with fail
    refine⟨⟨q-1,r+4294967295,?_,?_,by omega,by omega,O (fN q r _ _ t.out s j)⟩,?_⟩
    ·exact congrArg (I .u64) Y
    ·exact congrArg (I .u64) Y
    simp only[jg];omega
   have y:=ap ((4294967296:Int)<=(r:Int)+4294967295)
   go_wp2_with fail
   go_meet
   exact⟨q-1,congrArg (I .u64) Y,O (fH q r _ _ t.out p s j o),rfl⟩
  have Q:=ar ((4294967296:Int)*(r:Int)+(c:Int)<(q:Int)*4294925036);have R:hZ (q*18446744073709509356<=a*4294967296+c/\a*4294967296+c<(q+1)*18446744073709509356):=O ⟨lK q r _ _ h x,u⟩;clear h u g x
  go_wp2_with fail
  go_meet
  exact⟨q,rfl,R,rfl⟩
 obtain⟨k,rfl,X,rfl⟩:=hcut;obtain⟨v,C⟩:∃v:Nat,v=a*4294967296+c-k*18446744073709509356:=⟨_,rfl⟩;obtain⟨F,D⟩:=t_v a c k v X.1 X.2 C;have Q7:=O D;clear C D;have E7:=t_w a c k v Q7 F;obtain⟨C,S⟩:∃C:Nat,C=v/4294967295:=⟨_,rfl⟩;obtain⟨D,U⟩:∃D:Nat,D=v%4294967295:=⟨_,rfl⟩;clear o E B g;obtain⟨E8,E9,o,E,B⟩:=lq v C D F S U;have g:hZ (C*4294967295+D=v/\v*4294967296+d<(C+1)*18446744073709509356):=O (by rw[S,U];exact lC v d W F);clear S U
 go_upto_block 2 with fail
 clear E7 E8 E9
 go_cut [18,16] (λm z H=>∃k:Nat,m=N hK k/\hZ (k*18446744073709509356<=v*4294967296+d/\v*4294967296+d<(k+1)*18446744073709509356)/\w=H)
 case first=>
  go_wp2_with fail
  go_loop [18,16] (λm z=>∃q r:Nat,m=N hK q/\z=N hK r/\q<=4294967297/\r<=4294967295/\hZ (q*4294967295+r=v/\v*4294967296+d<(q+1)*18446744073709509356)) (λm _=>(jg m).toNat)
  case atStart=>exact⟨C,D,rfl,rfl,o,by omega,g⟩
  clear o E B g;have K:=W;have p:=F;obtain⟨q,r,rfl,rfl,o,B,g⟩:=hrel;obtain⟨h,u⟩:=g.out
  by_cases M:4294967296<=q
  ·have P:=ap ((4294967296:Int)<=(q:Int))
   have s:=O (lB q r v d K p M);have t:=O h;clear h u g
   go_upto_region 27 with fail
   by_cases j:r=0
   ·have y:=ar ((4294967296:Int)<=(r:Int)+4294967295)
    go_wp2_with fail
    refine⟨⟨q-1,r+4294967295,?_,?_,by omega,by omega,O (fN q r _ _ t.out s j)⟩,?_⟩
    ·exact congrArg (I .u64) Y
    ·exact congrArg (I .u64) Y
    simp only[jg];omega
   have y:=ap ((4294967296:Int)<=(r:Int)+4294967295)
   go_wp2_with fail
   go_meet
   exact⟨q-1,congrArg (I .u64) Y,O (fH q r _ _ t.out p s j o),rfl⟩
  have P:=ar ((4294967296:Int)<=(q:Int))
  by_cases x:4294967296*r+d<q*4294925036
  ·have Q:=ap ((4294967296:Int)*(r:Int)+(d:Int)<(q:Int)*4294925036)
   have al:1<=q:=Y;have s:=O (lH q r v d h x);have t:=O h;clear h u g x
   go_upto_region 27 with fail
   by_cases j:r=0
   ·have y:=ar ((4294967296:Int)<=(r:Int)+4294967295)
    go_wp2_with fail
    refine⟨⟨q-1,r+4294967295,?_,?_,by omega,by omega,O (fN q r _ _ t.out s j)⟩,?_⟩
    ·exact congrArg (I .u64) Y
    ·exact congrArg (I .u64) Y
    simp only[jg];omega
   have y:=ap ((4294967296:Int)<=(r:Int)+4294967295)
   go_wp2_with fail
   go_meet
   exact⟨q-1,congrArg (I .u64) Y,O (fH q r _ _ t.out p s j o),rfl⟩
  have Q:=ar ((4294967296:Int)*(r:Int)+(d:Int)<(q:Int)*4294925036);have R:hZ (q*18446744073709509356<=v*4294967296+d/\v*4294967296+d<(q+1)*18446744073709509356):=O ⟨lK q r _ _ h x,u⟩;clear h u g x
  go_wp2_with fail
  go_meet
  exact⟨q,rfl,R,rfl⟩
 obtain⟨m,rfl,t,rfl⟩:=hcut;obtain⟨z,j⟩:∃z:Nat,z=(v*4294967296+d-m*18446744073709509356)/4:=⟨_,rfl⟩;obtain⟨u,x,s⟩:=oS f n a l c d k m v z Tm Ux HU HL VV aa Q7 t.1 t.2 j;have y:((f*18446744073709551616+n)%4611686018427377339:Nat)=z:=by
  rw[u,jT,qh,jD x]
 obtain⟨h,H⟩:∃h:Nat,h=4*z:=⟨_,rfl⟩;rw[<-H]at s;have M:=t_w v d m h s Y;have P:(h:Int)/4=(z:Int):=Y;have K:=O y;clear j u x s y H
 go_wp2_with fail
 go_ret2;rw[K];exact⟨_,rfl,js _ _⟩
namespace DivQ
theorem rb(w:A):jd hQ 220 #[N hK 2305843009213688669] w λe w'=>e=jb (N ih 3)/\w=w':=by
 have a:=λw=>rG 2305843009213688669 G G w
 have e:bitLen (2305843009213688669:Int).toNat=61:=by decide+kernel
 rw[e]at a
 go_enter func220,ntmps220
 go_wp2_with (go_at_call 178;refine(a _).mono ?_;rintro e w' ⟨rfl,rfl⟩)
 go_ret;exact⟨rfl,rfl⟩
theorem fN(q r a d:Nat)(b:q*4294967295+r=a)(c:a*4294967296+d<q*18446744073709509352)(e:r=0):(q-1)*4294967295+(r+4294967295)=a/\a*4294967296+d<(q-1+1)*18446744073709509352:=Y
theorem fH(q r a d:Nat)(b:q*4294967295+r=a)(c:a<18446744073709509352)(e:a*4294967296+d<q*18446744073709509352)(f:¬r=0)(g:q<=4294967297):(q-1)*18446744073709509352<=a*4294967296+d/\a*4294967296+d<(q-1+1)*18446744073709509352:=Y
theorem lB(q r a d:Nat)(b:d<=4294967295)(c:a<18446744073709509352)(e:4294967296<=q):a*4294967296+d<q*18446744073709509352:=Y
theorem lH(q r a d:Nat)(b:q*4294967295+r=a)(c:4294967296*r+d<q*4294925032):a*4294967296+d<q*18446744073709509352:=Y
theorem lK(q r a d:Nat)(b:q*4294967295+r=a)(c:¬4294967296*r+d<q*4294925032):q*18446744073709509352<=a*4294967296+d:=Y
theorem lC(a d:Nat)(b:d<=4294967295)(c:a<18446744073709509352):a/4294967295*4294967295+a%4294967295=a/\a*4294967296+d<(a/4294967295+1)*18446744073709509352:=Y
theorem t_v(a d k v:Nat)(b:k*18446744073709509352<=a*4294967296+d)(c:a*4294967296+d<(k+1)*18446744073709509352)(e:v=a*4294967296+d-k*18446744073709509352):v<18446744073709509352/\v+k*18446744073709509352=a*4294967296+d:=Y
theorem lq(v q r:Nat)(a:v<18446744073709509352)(b:q=v/4294967295)(c:r=v%4294967295):
 (v:Int)/4294967295=(q:Int)/\(v:Int)-(q:Int)*4294967295=(r:Int)/\q<=4294967297/\(q:Int)*4294967295<=(v:Int)/\r<=4294967294:=Y
theorem t_w(a d k v:Nat)(b:v+k*18446744073709509352=a*4294967296+d)(c:v<18446744073709509352):
 jm.wrap (jm.wrap (jm.wrap ((a:Int)*4294967296)+(d:Int))-jm.wrap ((k:Int)*18446744073709509352))=(v:Int):=by
 simp only[jS];omega
theorem oS(c b d l e a k m v z:Nat)(s:b<18446744073709551616)(t:c<2305843009213688669)(f:d=8*c+b/2305843009213693952)(g:l=b*8%18446744073709551616)(h:e=l/4294967296)(i:a=l%4294967296)
 (j:v+k*18446744073709509352=d*4294967296+e) (n:m*18446744073709509352<=v*4294967296+a) (o:v*4294967296+a<(m+1)*18446744073709509352) (p:z=(v*4294967296+a-m*18446744073709509352)/8):
 c*18446744073709551616+b=(k*4294967296+m)*2305843009213688669+z/\z<2305843009213688669/\8*z+m*18446744073709509352=v*4294967296+a:=by
 have q:l=e*4294967296+a:=Y;have r:d*18446744073709551616+l=8*(c*18446744073709551616+b):=Y;clear f g h i;obtain⟨i,f⟩:=J (v*4294967296+a);obtain⟨B,g⟩:=J (c*18446744073709551616+b);obtain⟨K,h⟩:=J (k*4294967296);have u:i+K*18446744073709509352=8*B:=Y;rw[<-f]at n o p;rw[<-f,<-g,<-h];clear j q r f g h;omega
theorem div64_0(a:Nat)(b:a<18446744073709551616)(w:A):
 jd hQ 187 #[N hK 0,N hK a,N hK 2305843009213688669] w λe w'=>
  ∃q:Int,e=jb (ju #[N hK q,N hK ((a%2305843009213688669:Nat):Int)])/\ic w w w':=by
 have c:(0:Int)<=a:=Y
 go_enter km,kn
 go_upto_region 6 with fail
 go_quiet (fail)
 go_wp2
 go_ret2;exact⟨_,rfl,rfl,rfl,rfl,jh _,λ_ _=>rfl⟩
theorem div64_1(f n:Nat)(h0:1<=f)(Ux:f<2305843009213688669)(Tm:n<18446744073709551616)(w:A):
 jd hQ 187 #[N hK f,N hK n,N hK 2305843009213688669] w λe w'=>
  ∃q:Int,e=jb (ju #[N hK q,N hK (((f*18446744073709551616+n)%2305843009213688669:Nat):Int)])/\ic w w w':=by
 obtain⟨a,k⟩:∃a:Nat,a=8*f+n/2305843009213693952:=⟨_,rfl⟩;obtain⟨l,m⟩:∃l:Nat,l=n*8%18446744073709551616:=⟨_,rfl⟩;obtain⟨c,j⟩:∃c:Nat,c=l/4294967296:=⟨_,rfl⟩;obtain⟨d,s⟩:∃d:Nat,d=l%4294967296:=⟨_,rfl⟩;obtain⟨q,t⟩:∃q:Nat,q=a/4294967295:=⟨_,rfl⟩;obtain⟨r,u⟩:∃r:Nat,r=a%4294967295:=⟨_,rfl⟩;have v:bits .and .u64 18446744073709509352 4294967295=4294925032:=by decide+kernel
 have x:bits .or .u64 ((f:Int)*8) ((n:Int)/2305843009213693952)=(a:Int):=by
  have g:(f:Int)*8=((f*8:Nat):Int):=Y;have o:(n:Int)/2305843009213693952=((n/2305843009213693952:Nat):Int):=Y;rw[g,o,qb _ _ Y Y,k];have h:=qg (i:=3) (b:=n/2305843009213693952) Y f;rw[show 2^3*f=f*8 by omega]at h;rw[<-h];omega
 have h:jm.wrap ((n:Int)*8)=(l:Int):=by rw[jS,m];omega
 have y:(l:Int)/4294967296=(c:Int):=Y;have z:bits .and .u64 (l:Int) 4294967295=(d:Int):=by rw[maskN l Y,s]
 have p:a<18446744073709509352:=Y;have V:c<=4294967295:=Y;have W:d<=4294967295:=Y;obtain⟨C,D,o,E,B⟩:=lq a q r p t u;have g:hZ (q*4294967295+r=a/\a*4294967296+c<(q+1)*18446744073709509352):=O (by rw[t,u];exact lC a c V p);have HU:=O k;have HL:=O m;have VV:=O j;have aa:=O s;clear k m j s t u;have ad:=O rb;have j:=ar ((2305843009213688669:Int)<=(f:Int));have k:=ar (f=0);have m:=ar ((f:Int)=0)
 go_enter km,kn
 go_upto_block 0 with(go_at_call 220;refine(ad _).mono ?_;rintro e w' ⟨rfl,rfl⟩)
 clear v x h y z C D j k m
 go_cut [15,16] (λm z H=>∃k:Nat,m=N hK k/\hZ (k*18446744073709509352<=a*4294967296+c/\a*4294967296+c<(k+1)*18446744073709509352)/\w=H)
 case first=>
  go_wp2_with fail
  go_loop [15,16] (λm z=>∃q r:Nat,m=N hK q/\z=N hK r/\q<=4294967297/\r<=4294967295/\hZ (q*4294967295+r=a/\a*4294967296+c<(q+1)*18446744073709509352)) (λm _=>(jg m).toNat)
  case atStart=>exact⟨q,r,rfl,rfl,o,by omega,g⟩
  clear o E B g;have K:=V;have p:=p;obtain⟨q,r,rfl,rfl,o,B,g⟩:=hrel;obtain⟨h,u⟩:=g.out
  by_cases M:4294967296<=q
  ·have P:=ap ((4294967296:Int)<=(q:Int))
   have s:=O (lB q r a c K p M);have t:=O h;clear h u g
   go_upto_region 20 with fail
   by_cases j:r=0
   ·have y:=ar ((4294967296:Int)<=(r:Int)+4294967295)
    go_wp2_with fail
    refine⟨⟨q-1,r+4294967295,?_,?_,by omega,by omega,O (fN q r _ _ t.out s j)⟩,?_⟩
    ·exact congrArg (I .u64) Y
    ·exact congrArg (I .u64) Y
    simp only[jg];omega
   have y:=ap ((4294967296:Int)<=(r:Int)+4294967295)
   go_wp2_with fail
   go_meet
   exact⟨q-1,congrArg (I .u64) Y,O (fH q r _ _ t.out p s j o),rfl⟩
  have P:=ar ((4294967296:Int)<=(q:Int))
  by_cases x:4294967296*r+c<q*4294925032
  ·have Q:=ap ((4294967296:Int)*(r:Int)+(c:Int)<(q:Int)*4294925032)
   have al:1<=q:=Y;have s:=O (lH q r a c h x);have t:=O h;clear h u g x
   go_upto_region 20 with fail
   by_cases j:r=0
   ·have y:=ar ((4294967296:Int)<=(r:Int)+4294967295)
    go_wp2_with fail
    refine⟨⟨q-1,r+4294967295,?_,?_,by omega,by omega,O (fN q r _ _ t.out s j)⟩,?_⟩
    ·exact congrArg (I .u64) Y
    ·exact congrArg (I .u64) Y
    simp only[jg];omega
   have y:=ap ((4294967296:Int)<=(r:Int)+4294967295)
   go_wp2_with fail
   go_meet
   exact⟨q-1,congrArg (I .u64) Y,O (fH q r _ _ t.out p s j o),rfl⟩
  have Q:=ar ((4294967296:Int)*(r:Int)+(c:Int)<(q:Int)*4294925032);have R:hZ (q*18446744073709509352<=a*4294967296+c/\a*4294967296+c<(q+1)*18446744073709509352):=O ⟨lK q r _ _ h x,u⟩;clear h u g x
  go_wp2_with fail
  go_meet
  exact⟨q,rfl,R,rfl⟩
 obtain⟨k,rfl,X,rfl⟩:=hcut;obtain⟨v,C⟩:∃v:Nat,v=a*4294967296+c-k*18446744073709509352:=⟨_,rfl⟩;obtain⟨F,D⟩:=t_v a c k v X.1 X.2 C;have Q7:=O D;clear C D;have E7:=t_w a c k v Q7 F;obtain⟨C,S⟩:∃C:Nat,C=v/4294967295:=⟨_,rfl⟩;obtain⟨D,U⟩:∃D:Nat,D=v%4294967295:=⟨_,rfl⟩;clear o E B g;obtain⟨E8,E9,o,E,B⟩:=lq v C D F S U;have g:hZ (C*4294967295+D=v/\v*4294967296+d<(C+1)*18446744073709509352):=O (by rw[S,U];exact lC v d W F);clear S U
 go_upto_block 2 with fail
 clear E7 E8 E9
 go_cut [18,16] (λm z H=>∃k:Nat,m=N hK k/\hZ (k*18446744073709509352<=v*4294967296+d/\v*4294967296+d<(k+1)*18446744073709509352)/\w=H)
 case first=>
  go_wp2_with fail
  go_loop [18,16] (λm z=>∃q r:Nat,m=N hK q/\z=N hK r/\q<=4294967297/\r<=4294967295/\hZ (q*4294967295+r=v/\v*4294967296+d<(q+1)*18446744073709509352)) (λm _=>(jg m).toNat)
  case atStart=>exact⟨C,D,rfl,rfl,o,by omega,g⟩
  clear o E B g;have K:=W;have p:=F;obtain⟨q,r,rfl,rfl,o,B,g⟩:=hrel;obtain⟨h,u⟩:=g.out
  by_cases M:4294967296<=q
  ·have P:=ap ((4294967296:Int)<=(q:Int))
   have s:=O (lB q r v d K p M);have t:=O h;clear h u g
   go_upto_region 27 with fail
   by_cases j:r=0
   ·have y:=ar ((4294967296:Int)<=(r:Int)+4294967295)
    go_wp2_with fail
    refine⟨⟨q-1,r+4294967295,?_,?_,by omega,by omega,O (fN q r _ _ t.out s j)⟩,?_⟩
    ·exact congrArg (I .u64) Y
    ·exact congrArg (I .u64) Y
    simp only[jg];omega
   have y:=ap ((4294967296:Int)<=(r:Int)+4294967295)
   go_wp2_with fail
   go_meet
   exact⟨q-1,congrArg (I .u64) Y,O (fH q r _ _ t.out p s j o),rfl⟩
  have P:=ar ((4294967296:Int)<=(q:Int))
  by_cases x:4294967296*r+d<q*4294925032
  ·have Q:=ap ((4294967296:Int)*(r:Int)+(d:Int)<(q:Int)*4294925032)
   have al:1<=q:=Y;have s:=O (lH q r v d h x);have t:=O h;clear h u g x
   go_upto_region 27 with fail
   by_cases j:r=0
   ·have y:=ar ((4294967296:Int)<=(r:Int)+4294967295)
    go_wp2_with fail
    refine⟨⟨q-1,r+4294967295,?_,?_,by omega,by omega,O (fN q r _ _ t.out s j)⟩,?_⟩
    ·exact congrArg (I .u64) Y
    ·exact congrArg (I .u64) Y
    simp only[jg];omega
   have y:=ap ((4294967296:Int)<=(r:Int)+4294967295)
   go_wp2_with fail
   go_meet
   exact⟨q-1,congrArg (I .u64) Y,O (fH q r _ _ t.out p s j o),rfl⟩
  have Q:=ar ((4294967296:Int)*(r:Int)+(d:Int)<(q:Int)*4294925032);have R:hZ (q*18446744073709509352<=v*4294967296+d/\v*4294967296+d<(q+1)*18446744073709509352):=O ⟨lK q r _ _ h x,u⟩;clear h u g x
  go_wp2_with fail
  go_meet
  exact⟨q,rfl,R,rfl⟩
 obtain⟨m,rfl,t,rfl⟩:=hcut;obtain⟨z,j⟩:∃z:Nat,z=(v*4294967296+d-m*18446744073709509352)/8:=⟨_,rfl⟩;obtain⟨u,x,s⟩:=oS f n a l c d k m v z Tm Ux HU HL VV aa Q7 t.1 t.2 j;have y:((f*18446744073709551616+n)%2305843009213688669:Nat)=z:=by
  rw[u,jT,qh,jD x]
 obtain⟨h,H⟩:∃h:Nat,h=8*z:=⟨_,rfl⟩;rw[<-H]at s;have M:=t_w v d m h s Y;have P:(h:Int)/8=(z:Int):=Y;have K:=O y;clear j u x s y H
 go_wp2_with fail
 go_ret2;rw[K];exact⟨_,rfl,js _ _⟩
end DivQ
namespace DivS
theorem rb(w:A):jd hQ 220 #[N hK 2305843009213688668] w λe w'=>e=jb (N ih 3)/\w=w':=by
 have a:=λw=>rG 2305843009213688668 G G w
 have e:bitLen (2305843009213688668:Int).toNat=61:=by decide+kernel
 rw[e]at a
 go_enter func220,ntmps220
 go_wp2_with (go_at_call 178;refine(a _).mono ?_;rintro e w' ⟨rfl,rfl⟩)
 go_ret;exact⟨rfl,rfl⟩
theorem fN(q r a d:Nat)(b:q*4294967295+r=a)(c:a*4294967296+d<q*18446744073709509344)(e:r=0):(q-1)*4294967295+(r+4294967295)=a/\a*4294967296+d<(q-1+1)*18446744073709509344:=Y
theorem fH(q r a d:Nat)(b:q*4294967295+r=a)(c:a<18446744073709509344)(e:a*4294967296+d<q*18446744073709509344)(f:¬r=0)(g:q<=4294967297):(q-1)*18446744073709509344<=a*4294967296+d/\a*4294967296+d<(q-1+1)*18446744073709509344:=Y
theorem lB(q r a d:Nat)(b:d<=4294967295)(c:a<18446744073709509344)(e:4294967296<=q):a*4294967296+d<q*18446744073709509344:=Y
theorem lH(q r a d:Nat)(b:q*4294967295+r=a)(c:4294967296*r+d<q*4294925024):a*4294967296+d<q*18446744073709509344:=Y
theorem lK(q r a d:Nat)(b:q*4294967295+r=a)(c:¬4294967296*r+d<q*4294925024):q*18446744073709509344<=a*4294967296+d:=Y
theorem lC(a d:Nat)(b:d<=4294967295)(c:a<18446744073709509344):a/4294967295*4294967295+a%4294967295=a/\a*4294967296+d<(a/4294967295+1)*18446744073709509344:=Y
theorem t_v(a d k v:Nat)(b:k*18446744073709509344<=a*4294967296+d)(c:a*4294967296+d<(k+1)*18446744073709509344)(e:v=a*4294967296+d-k*18446744073709509344):v<18446744073709509344/\v+k*18446744073709509344=a*4294967296+d:=Y
theorem lq(v q r:Nat)(a:v<18446744073709509344)(b:q=v/4294967295)(c:r=v%4294967295):
 (v:Int)/4294967295=(q:Int)/\(v:Int)-(q:Int)*4294967295=(r:Int)/\q<=4294967297/\(q:Int)*4294967295<=(v:Int)/\r<=4294967294:=Y
theorem t_w(a d k v:Nat)(b:v+k*18446744073709509344=a*4294967296+d)(c:v<18446744073709509344):
 jm.wrap (jm.wrap (jm.wrap ((a:Int)*4294967296)+(d:Int))-jm.wrap ((k:Int)*18446744073709509344))=(v:Int):=by
 simp only[jS];omega
theorem oS(c b d l e a k m v z:Nat)(s:b<18446744073709551616)(t:c<2305843009213688668)(f:d=8*c+b/2305843009213693952)(g:l=b*8%18446744073709551616)(h:e=l/4294967296)(i:a=l%4294967296)
 (j:v+k*18446744073709509344=d*4294967296+e) (n:m*18446744073709509344<=v*4294967296+a) (o:v*4294967296+a<(m+1)*18446744073709509344) (p:z=(v*4294967296+a-m*18446744073709509344)/8):
 c*18446744073709551616+b=(k*4294967296+m)*2305843009213688668+z/\z<2305843009213688668/\8*z+m*18446744073709509344=v*4294967296+a:=by
 have q:l=e*4294967296+a:=Y;have r:d*18446744073709551616+l=8*(c*18446744073709551616+b):=Y;clear f g h i;obtain⟨i,f⟩:=J (v*4294967296+a);obtain⟨B,g⟩:=J (c*18446744073709551616+b);obtain⟨K,h⟩:=J (k*4294967296);have u:i+K*18446744073709509344=8*B:=Y;rw[<-f]at n o p;rw[<-f,<-g,<-h];clear j q r f g h;omega
theorem div64_0(a:Nat)(b:a<18446744073709551616)(w:A):
 jd hQ 187 #[N hK 0,N hK a,N hK 2305843009213688668] w λe w'=>
  ∃q:Int,e=jb (ju #[N hK q,N hK ((a%2305843009213688668:Nat):Int)])/\ic w w w':=by
 have c:(0:Int)<=a:=Y
 go_enter km,kn
 go_upto_region 6 with fail
 go_quiet (fail)
 go_wp2
 go_ret2;exact⟨_,rfl,rfl,rfl,rfl,jh _,λ_ _=>rfl⟩
theorem div64_1(f n:Nat)(h0:1<=f)(Ux:f<2305843009213688668)(Tm:n<18446744073709551616)(w:A):
 jd hQ 187 #[N hK f,N hK n,N hK 2305843009213688668] w λe w'=>
  ∃q:Int,e=jb (ju #[N hK q,N hK (((f*18446744073709551616+n)%2305843009213688668:Nat):Int)])/\ic w w w':=by
 obtain⟨a,k⟩:∃a:Nat,a=8*f+n/2305843009213693952:=⟨_,rfl⟩;obtain⟨l,m⟩:∃l:Nat,l=n*8%18446744073709551616:=⟨_,rfl⟩;obtain⟨c,j⟩:∃c:Nat,c=l/4294967296:=⟨_,rfl⟩;obtain⟨d,s⟩:∃d:Nat,d=l%4294967296:=⟨_,rfl⟩;obtain⟨q,t⟩:∃q:Nat,q=a/4294967295:=⟨_,rfl⟩;obtain⟨r,u⟩:∃r:Nat,r=a%4294967295:=⟨_,rfl⟩;have v:bits .and .u64 18446744073709509344 4294967295=4294925024:=by decide+kernel
 have x:bits .or .u64 ((f:Int)*8) ((n:Int)/2305843009213693952)=(a:Int):=by
  have g:(f:Int)*8=((f*8:Nat):Int):=Y;have o:(n:Int)/2305843009213693952=((n/2305843009213693952:Nat):Int):=Y;rw[g,o,qb _ _ Y Y,k];have h:=qg (i:=3) (b:=n/2305843009213693952) Y f;rw[show 2^3*f=f*8 by omega]at h;rw[<-h];omega
 have h:jm.wrap ((n:Int)*8)=(l:Int):=by rw[jS,m];omega
 have y:(l:Int)/4294967296=(c:Int):=Y;have z:bits .and .u64 (l:Int) 4294967295=(d:Int):=by rw[maskN l Y,s]
 have p:a<18446744073709509344:=Y;have V:c<=4294967295:=Y;have W:d<=4294967295:=Y;obtain⟨C,D,o,E,B⟩:=lq a q r p t u;have g:hZ (q*4294967295+r=a/\a*4294967296+c<(q+1)*18446744073709509344):=O (by rw[t,u];exact lC a c V p);have HU:=O k;have HL:=O m;have VV:=O j;have aa:=O s;clear k m j s t u;have ad:=O rb;have j:=ar ((2305843009213688668:Int)<=(f:Int));have k:=ar (f=0);have m:=ar ((f:Int)=0)
 go_enter km,kn
 go_upto_block 0 with(go_at_call 220;refine(ad _).mono ?_;rintro e w' ⟨rfl,rfl⟩)
 clear v x h y z C D j k m
 go_cut [15,16] (λm z H=>∃k:Nat,m=N hK k/\hZ (k*18446744073709509344<=a*4294967296+c/\a*4294967296+c<(k+1)*18446744073709509344)/\w=H)
 case first=>
  go_wp2_with fail
  go_loop [15,16] (λm z=>∃q r:Nat,m=N hK q/\z=N hK r/\q<=4294967297/\r<=4294967295/\hZ (q*4294967295+r=a/\a*4294967296+c<(q+1)*18446744073709509344)) (λm _=>(jg m).toNat)
  case atStart=>exact⟨q,r,rfl,rfl,o,by omega,g⟩
  clear o E B g;have K:=V;have p:=p;obtain⟨q,r,rfl,rfl,o,B,g⟩:=hrel;obtain⟨h,u⟩:=g.out
  by_cases M:4294967296<=q
  ·have P:=ap ((4294967296:Int)<=(q:Int))
   have s:=O (lB q r a c K p M);have t:=O h;clear h u g
   go_upto_region 20 with fail
   by_cases j:r=0
   ·have y:=ar ((4294967296:Int)<=(r:Int)+4294967295)
    go_wp2_with fail
    refine⟨⟨q-1,r+4294967295,?_,?_,by omega,by omega,O (fN q r _ _ t.out s j)⟩,?_⟩
    ·exact congrArg (I .u64) Y
    ·exact congrArg (I .u64) Y
    simp only[jg];omega
   have y:=ap ((4294967296:Int)<=(r:Int)+4294967295)
   go_wp2_with fail
   go_meet
   exact⟨q-1,congrArg (I .u64) Y,O (fH q r _ _ t.out p s j o),rfl⟩
  have P:=ar ((4294967296:Int)<=(q:Int))
  by_cases x:4294967296*r+c<q*4294925024
  ·have Q:=ap ((4294967296:Int)*(r:Int)+(c:Int)<(q:Int)*4294925024)
   have al:1<=q:=Y;have s:=O (lH q r a c h x);have t:=O h;clear h u g x
   go_upto_region 20 with fail
   by_cases j:r=0
   ·have y:=ar ((4294967296:Int)<=(r:Int)+4294967295)
    go_wp2_with fail
    refine⟨⟨q-1,r+4294967295,?_,?_,by omega,by omega,O (fN q r _ _ t.out s j)⟩,?_⟩
    ·exact congrArg (I .u64) Y
    ·exact congrArg (I .u64) Y
    simp only[jg];omega
   have y:=ap ((4294967296:Int)<=(r:Int)+4294967295)
   go_wp2_with fail
   go_meet
   exact⟨q-1,congrArg (I .u64) Y,O (fH q r _ _ t.out p s j o),rfl⟩
  have Q:=ar ((4294967296:Int)*(r:Int)+(c:Int)<(q:Int)*4294925024);have R:hZ (q*18446744073709509344<=a*4294967296+c/\a*4294967296+c<(q+1)*18446744073709509344):=O ⟨lK q r _ _ h x,u⟩;clear h u g x
  go_wp2_with fail
  go_meet
  exact⟨q,rfl,R,rfl⟩
 obtain⟨k,rfl,X,rfl⟩:=hcut;obtain⟨v,C⟩:∃v:Nat,v=a*4294967296+c-k*18446744073709509344:=⟨_,rfl⟩;obtain⟨F,D⟩:=t_v a c k v X.1 X.2 C;have Q7:=O D;clear C D;have E7:=t_w a c k v Q7 F;obtain⟨C,S⟩:∃C:Nat,C=v/4294967295:=⟨_,rfl⟩;obtain⟨D,U⟩:∃D:Nat,D=v%4294967295:=⟨_,rfl⟩;clear o E B g;obtain⟨E8,E9,o,E,B⟩:=lq v C D F S U;have g:hZ (C*4294967295+D=v/\v*4294967296+d<(C+1)*18446744073709509344):=O (by rw[S,U];exact lC v d W F);clear S U
 go_upto_block 2 with fail
 clear E7 E8 E9
 go_cut [18,16] (λm z H=>∃k:Nat,m=N hK k/\hZ (k*18446744073709509344<=v*4294967296+d/\v*4294967296+d<(k+1)*18446744073709509344)/\w=H)
 case first=>
  go_wp2_with fail
  go_loop [18,16] (λm z=>∃q r:Nat,m=N hK q/\z=N hK r/\q<=4294967297/\r<=4294967295/\hZ (q*4294967295+r=v/\v*4294967296+d<(q+1)*18446744073709509344)) (λm _=>(jg m).toNat)
  case atStart=>exact⟨C,D,rfl,rfl,o,by omega,g⟩
  clear o E B g;have K:=W;have p:=F;obtain⟨q,r,rfl,rfl,o,B,g⟩:=hrel;obtain⟨h,u⟩:=g.out
  by_cases M:4294967296<=q
  ·have P:=ap ((4294967296:Int)<=(q:Int))
   have s:=O (lB q r v d K p M);have t:=O h;clear h u g
   go_upto_region 27 with fail
   by_cases j:r=0
   ·have y:=ar ((4294967296:Int)<=(r:Int)+4294967295)
    go_wp2_with fail
    refine⟨⟨q-1,r+4294967295,?_,?_,by omega,by omega,O (fN q r _ _ t.out s j)⟩,?_⟩
    ·exact congrArg (I .u64) Y
    ·exact congrArg (I .u64) Y
    simp only[jg];omega
   have y:=ap ((4294967296:Int)<=(r:Int)+4294967295)
   go_wp2_with fail
   go_meet
   exact⟨q-1,congrArg (I .u64) Y,O (fH q r _ _ t.out p s j o),rfl⟩
  have P:=ar ((4294967296:Int)<=(q:Int))
  by_cases x:4294967296*r+d<q*4294925024
  ·have Q:=ap ((4294967296:Int)*(r:Int)+(d:Int)<(q:Int)*4294925024)
   have al:1<=q:=Y;have s:=O (lH q r v d h x);have t:=O h;clear h u g x
   go_upto_region 27 with fail
   by_cases j:r=0
   ·have y:=ar ((4294967296:Int)<=(r:Int)+4294967295)
    go_wp2_with fail
    refine⟨⟨q-1,r+4294967295,?_,?_,by omega,by omega,O (fN q r _ _ t.out s j)⟩,?_⟩
    ·exact congrArg (I .u64) Y
    ·exact congrArg (I .u64) Y
    simp only[jg];omega
   have y:=ap ((4294967296:Int)<=(r:Int)+4294967295)
   go_wp2_with fail
   go_meet
   exact⟨q-1,congrArg (I .u64) Y,O (fH q r _ _ t.out p s j o),rfl⟩
  have Q:=ar ((4294967296:Int)*(r:Int)+(d:Int)<(q:Int)*4294925024);have R:hZ (q*18446744073709509344<=v*4294967296+d/\v*4294967296+d<(q+1)*18446744073709509344):=O ⟨lK q r _ _ h x,u⟩;clear h u g x
  go_wp2_with fail
  go_meet
  exact⟨q,rfl,R,rfl⟩
 obtain⟨m,rfl,t,rfl⟩:=hcut;obtain⟨z,j⟩:∃z:Nat,z=(v*4294967296+d-m*18446744073709509344)/8:=⟨_,rfl⟩;obtain⟨u,x,s⟩:=oS f n a l c d k m v z Tm Ux HU HL VV aa Q7 t.1 t.2 j;have y:((f*18446744073709551616+n)%2305843009213688668:Nat)=z:=by
  rw[u,jT,qh,jD x]
 obtain⟨h,H⟩:∃h:Nat,h=8*z:=⟨_,rfl⟩;rw[<-H]at s;have M:=t_w v d m h s Y;have P:(h:Int)/8=(z:Int):=Y;have K:=O y;clear j u x s y H
 go_wp2_with fail
 go_ret2;rw[K];exact⟨_,rfl,js _ _⟩
end DivS
section
structure aZ(B0:Nat)(Ψ:Nat->Prop)(a B:A):Prop where
 os:B.os=a.os
 tape:B.tape=a.tape
 output:B.output=a.output
 size:a.heap.size<=B.heap.size
 block:∀k,k<a.heap.size->¬Ψ k->(B.heap[k]?=a.heap[k]?\/(B0<=k/\∃o:Obj,a.heap[k]?=T o/\o.isCells=false))
theorem aZ.refl(B0:Nat)(Ψ:Nat->Prop)(a:A):aZ B0 Ψ a a:=⟨rfl,rfl,rfl,jh _,λ_ _ _=>.inl rfl⟩
theorem aZ.ofBelow{B0:Nat}{Ψ:Nat->Prop}{a B:A}{n:Nat}(h:ic n a B)(b:∀k,k<a.heap.size->¬Ψ k->k<n):aZ B0 Ψ a B:=
 ⟨h.os,h.tape,h.output,h.size,λk hk c=>.inl (h.block k (b k hk c))⟩
theorem aZ.alloc(B0:Nat)(Ψ:Nat->Prop)(a:A)(o:Obj):aZ B0 Ψ a (a.alloc o):=
 ⟨rfl,rfl,rfl,by simp,λk hk _=>.inl (jk _ _ _ hk)⟩
theorem aZ.putObj{B0:Nat}{Ψ:Nat->Prop}{a:A}{l:Nat}{o:Obj}(b:Obj)(c:a.heap[l]?=T o)(d:o.isCells=false)(f:B0<=l):aZ B0 Ψ a (a.putObj l b):=by
 refine⟨rfl,rfl,rfl,by simp[oj],λk hk _=>?_⟩
 by_cases e:k=l
 ·subst e;exact .inr ⟨f,o,c,d⟩
 exact .inl (jW e)
def bi{β:Type}(B0:Nat)(c:β->(Nat->Prop)->A->Prop):Prop:=
 ∀s Ψ a b B,c s Ψ b->aZ B0 a b B->(∀k,Ψ k->a k)->(∀k,a k->Ψ k\/b.heap.size<=k)->c s a B
theorem bi.and{β:Type}{B0:Nat}{a b:β->(Nat->Prop)->A->Prop}(h:bi B0 a)(j:bi B0 b):bi B0 (λs Ψ W=>a s Ψ W/\b s Ψ W):=
 λs Ψ c d B e f g i=>⟨h s Ψ c d B e.1 f g i,j s Ψ c d B e.2 f g i⟩
theorem bi.keep{β:Type}{B0:Nat}{a:β->(Nat->Prop)->A->Prop}(h:bi B0 a){s:β}{Ψ:Nat->Prop}{b B:A}(c:a s Ψ b)(d:aZ B0 Ψ b B):a s Ψ B:=
 h s Ψ Ψ b B c d (λ_ h=>h) (λ_ h=>.inl h)
theorem aZ.cells{B0:Nat}{Ψ:Nat->Prop}{a B:A}(h:aZ B0 Ψ a B){k:Nat}{c:Array hH}{t:je}{f:Nat×Nat}(hk:a.heap[k]?=T (hU c t f))(d:¬Ψ k):B.heap[k]?=T (hU c t f):=by
 rcases h.block k (jy.1 hk).1 d with e|⟨_,o,b,g⟩
 ·exact e.trans hk
 rw[hk]at b;cases b;cases g
theorem aZ.row{B0:Nat}{Ψ:Nat->Prop}{a B:A}(h:aZ B0 Ψ a B){base:Nat}{e:je}{size:Nat}{v:hH}{n:Nat}{xs:List hH}
 (b:a.ownsRow base e size v n xs) (c:∀j,v.ownBlock=T j->¬Ψ j):B.ownsRow base e size v n xs:=by
 refine⟨b.1,?_⟩
 rcases b.2 with d|⟨g,f,i,rfl,j,k,l⟩
 ·exact .inl d
 exact .inr ⟨g,f,i,rfl,j,h.cells k (c g rfl),l⟩
def kK(b:Nat)(t:je)(base:Nat)(e:je)(size n:Nat)(xs:List hH)(a:hH->Prop)(Ψ:Nat->Prop)(W:A):Prop:=
 ∃v,jl W b t v/\¬Ψ b/\W.ownsRow base e size v n xs/\(∀j,v.ownBlock=T j->¬Ψ j)/\a v
theorem oB{β:Type}(B0 b:Nat)(t:je)(base:Nat)(e:je)(size:Nat)(n:β->Nat)(f:β->List hH)(o:β->hH->Prop):
 bi B0 (λs Ψ W=>kK b t base e size (n s) (f s) (o s) Ψ W):=by
 rintro s Ψ a u B ⟨v,c,p,d,q,r⟩ g w i;have k:¬a b:=λh=>by rcases i _ h with h|h;exact p h;have:=c.lt;omega
 have l:∀j,v.ownBlock=T j->¬a j:=λj m h=>by
  rcases i _ h with h|h
  ·exact q j m h
  have:=(d.lt j m).2;omega
 exact⟨v,g.cells c k,k,g.row d l,l,r⟩
theorem gH{β:Type}(B0 b:Nat)(t:je)(f:β->hH):bi B0 (λs Ψ W=>jl W b t (f s)/\¬Ψ b):=by
 rintro s Ψ d j B ⟨a,e⟩ g k i;have c:¬d b:=λh=>by rcases i _ h with h|h;exact e h;have:=a.lt;omega
 exact⟨g.cells a c,c⟩
theorem k7{β:Type}(B0 n:Nat)(w:A)(i:n<=w.heap.size)(j:n<=B0):bi B0 (fun(_:β) Ψ W=>ic n w W/\∀k,Ψ k->n<=k):=by
 rintro s Ψ d l B ⟨b,f⟩ a m g;have c:∀k,d k->n<=k:=λk h=>by
  rcases g _ h with h|h
  ·exact f k h
  have:=b.size;omega
 refine⟨b.trans ⟨a.os,a.tape,a.output,a.size,λk hk=>?_⟩,c⟩
 rcases a.block k (a8 b.size) (λh=>by have:=c k h;omega)with e|⟨h,_⟩
 ·exact e
 omega
theorem grownBy_drew{a B:A}{r:Option Nat}(h:a.drew.grownBy B r):a.grownBy B r:=⟨h.os,h.tape,h.output,h.size,h.block⟩
theorem oq{a d:A}{n₀ b B0:Nat}{t e:je}{size k m:Nat}{v c:hH}{xs f:List hH}{p:Obj}{Ψ:Nat->Prop}
 (q:jl a b t v) (r:t≠e) (s:a.ownsRow n₀ e size v k xs) (u:n₀<=a.heap.size) (w:n₀<=b) (g:¬Ψ b) (i:∀j,v.ownBlock=T j->¬Ψ j)
 (l:∀j,Ψ j->j<a.heap.size) (y:d.ownsRow n₀ e size c m f) (n:(a.alloc p).grownBy d v.ownBlock) (z:∀j,c.ownBlock=T j->v.ownBlock=T j\/j=a.heap.size+1):
 (j7 B0 a (d.setCell ⟨b,0,hF⟩ c)/\ic n₀ a (d.setCell ⟨b,0,hF⟩ c)/\∀k,Ψ k->(d.setCell ⟨b,0,hF⟩ c).heap[k]?=a.heap[k]?)/\
 kK b t n₀ e size m f (λx=>x=c) Ψ (d.setCell ⟨b,0,hF⟩ c):=by
 obtain⟨H,x,B,C,D⟩:=q.appended r s u w y n;refine⟨⟨C.from _,D,λk hk=>?_⟩,c,x,g,B,λj E o=>?_,rfl⟩
 ·have F:=l k hk
  rw[jX _ _ _ _ (show k≠b by rintro rfl;exact g hk),n.block k (by simp;omega) (λh=>i k h.symm hk),jk _ _ _ F]
 rcases z j E with h|h
 ·exact i j h o
 have:=l j o;omega
theorem eY{β:Type}(B0:Nat)(p:β->Prop):bi B0 (λs _ _=>p s):=λ_ _ _ _ _ h _ _ _=>h
def dI{α:Type}(P:jq)(g:Nat)(lb:Array hH)(encs:α->Array hH)(f:Nat->Prop)(n₀:Nat)(S h V:List α->Prop)(w:A):Prop:=
 ∀(l:Nat) (c d:List α->(Nat->Prop)->A->Prop) (W:A),ic w w W->bi W.heap.size c->bi W.heap.size d->
  (∀a x Ψ b,c a Ψ b->(∀k,Ψ k->k<b.heap.size)->V (a++[x])->YieldAt Fence.wide 0 P l (encs x) b λe B=>
   (e=jb (.bool true)/\c (a++[x]) Ψ B/\ic n₀ b B/\∀k,Ψ k->B.heap[k]?=b.heap[k]?)\/(e=jb (.bool false)/\d (a++[x]) Ψ B/\ic n₀ b B/\∀k,Ψ k->B.heap[k]?=b.heap[k]?))->
  c [] f W->
  jd P g (#[.func (.yield l) #[] #[]]++lb) W λe B=>(∃v,e=jb v)/\((∃xs Ψ,S xs/\c xs Ψ B)\/(∃a Ψ,h a/\d a Ψ B))
def B2{α:Type}(P:jq)(g:Nat)(lb:Array hH)(encs:α->Array hH)(f:Nat->Prop)(n₀:Nat)(S h:List α->Prop)(V i:List α->(Nat->Prop)->A->Prop)(j:α->Nat->Prop)(w:A):Prop:=
 ∀(l:Nat) (c d:List α->(Nat->Prop)->A->Prop) (W:A),ic w w W->bi W.heap.size c->bi W.heap.size d->(∀a Ψ B,c a Ψ B->i a Ψ B)->
  (∀b x Ψ a,c b Ψ a->c b (λk=>Ψ k\/j x k) a->(∀k,Ψ k->k<a.heap.size)->V (b++[x]) Ψ a->YieldAt Fence.wide 0 P l (encs x) a λe B=>
   (e=jb (.bool true)/\c (b++[x]) Ψ B/\ic n₀ a B/\∀k,Ψ k->B.heap[k]?=a.heap[k]?)\/(e=jb (.bool false)/\d (b++[x]) Ψ B/\ic n₀ a B/\∀k,Ψ k->B.heap[k]?=a.heap[k]?))->
  c [] f W->
  jd P g (#[.func (.yield l) #[] #[]]++lb) W λe B=>(∃v,e=jb v)/\((∃xs Ψ,S xs/\c xs Ψ B)\/(∃b Ψ,h b/\d b Ψ B))
theorem dI.v{α:Type}{P:jq}{g:Nat}{lb:Array hH}{encs:α->Array hH}{a:Nat->Prop}{n₀:Nat}{S b V:List α->Prop}{w:A}(h:dI P g lb encs a n₀ S b V w):B2 P g lb encs a n₀ S b (λc _ _=>V c) (λ_ _ _=>True) (λ_ _=>False) w:=λl d e W f i j _ k=>h l d e W f i j λm x Ψ n c=>k m x Ψ n c (by simpa using c)
def nD{α:Type}(B0 n₀:Nat)(c:List α->(Nat->Prop)->A->Prop)(b:jM->List α->(Nat->Prop)->A->Prop)(xs:List α)(Ψ:Nat->Prop)(a:A):jv->Act->A->Prop
 | .normal,_,B=>(j7 B0 a B/\ic n₀ a B/\∀k,Ψ k->B.heap[k]?=a.heap[k]?)/\c xs Ψ B
 | .ret,_,B=>(j7 B0 a B/\ic n₀ a B/\∀k,Ψ k->B.heap[k]?=a.heap[k]?)/\b .ret xs Ψ B
 | .exit d,_,B=>(j7 B0 a B/\ic n₀ a B/\∀k,Ψ k->B.heap[k]?=a.heap[k]?)/\b (.exit d) xs Ψ B
 | .goto t,_,B=>(j7 B0 a B/\ic n₀ a B/\∀k,Ψ k->B.heap[k]?=a.heap[k]?)/\b (.goto t) xs Ψ B
 | .panic _,_,_=>False
 | .outgrown,_,_=>False
def uc{α:Type}(B0 n₀:Nat)(c:List α->(Nat->Prop)->A->Prop)(b:jM->List α->(Nat->Prop)->A->Prop)(xs:List α)(Ψ:Nat->Prop)(a:A):jv->Act->A->Prop
 | .normal,_,B=>((B.heap[B0]?=a.heap[B0]?/\B.heap[B0+1]?=a.heap[B0+1]?)/\ic n₀ a B/\∀k,Ψ k->B.heap[k]?=a.heap[k]?)/\c xs Ψ B
 | .ret,_,B=>((B.heap[B0]?=a.heap[B0]?/\B.heap[B0+1]?=a.heap[B0+1]?)/\ic n₀ a B/\∀k,Ψ k->B.heap[k]?=a.heap[k]?)/\b .ret xs Ψ B
 | .exit d,_,B=>((B.heap[B0]?=a.heap[B0]?/\B.heap[B0+1]?=a.heap[B0+1]?)/\ic n₀ a B/\∀k,Ψ k->B.heap[k]?=a.heap[k]?)/\b (.exit d) xs Ψ B
 | .goto t,_,B=>((B.heap[B0]?=a.heap[B0]?/\B.heap[B0+1]?=a.heap[B0+1]?)/\ic n₀ a B/\∀k,Ψ k->B.heap[k]?=a.heap[k]?)/\b (.goto t) xs Ψ B
 | .panic _,_,_=>False
 | .outgrown,_,_=>False
theorem gZ{n:Nat}{W:A}{l:Nat}{a:Obj}(b:n<=l):ic n W (W.putObj l a):=
 ⟨rfl,rfl,rfl,by simp[oj],λk hk=>jW Y⟩
variable {P:jq}
theorem nD.two{α:Type}{B0 n₀:Nat}{c:List α->(Nat->Prop)->A->Prop}{d:jM->List α->(Nat->Prop)->A->Prop}{xs:List α}{Ψ:Nat->Prop}{b B:A}{e:jv}{a:Act}{r:Loop}(f:b.heap[B0]?=T (.deferred (T [])))(g:b.heap[B0+1]?=T (.loop r))(h:nD B0 n₀ c d xs Ψ b e a B):uc B0 n₀ c d xs Ψ b e a B:=by
 cases e<;>first
  |exact h
  |exact⟨⟨⟨(h.1.1.same _ _ (jh _) f rfl).trans f.symm,(h.1.1.same _ _ (Nat.le_succ _) g rfl).trans g.symm⟩,h.1.2⟩,h.2⟩
theorem wN{α:Type}{g:j8}{ps:Array Tmp}{assign body:jM}{au:jv->Act->A->Prop}{a:Act}{w:A}{n:Nat}
 {gf:Nat} {lb:Array hH} (hg:a.eval g=.func (.func gf) #[] lb) (eg:∀args w,(ob gf args).run P w=.ok (.enter gf args) w)
 {encs:α->Array hH} {Ψ0:Nat->Prop} {n₀:Nat} {S Sp:List α->Prop} {V OY:List α->(Nat->Prop)->A->Prop} {Φ:α->Nat->Prop} (Sr:B2 P gf lb encs Ψ0 n₀ S Sp V OY Φ w)
 (Tp:n₀<=w.heap.size) (Vb:∀x,(encs x).size=ps.size) (Tr:∀k,Ψ0 k->k<w.heap.size)
 (i:List α->(Nat->Prop)->A->Prop) (Q:jM->List α->(Nat->Prop)->A->Prop) (F:bi w.heap.size i) (hG:∀u Ψ B,i u Ψ B->OY u Ψ B) (R:∀c,bi w.heap.size (Q c)) (h0:i [] Ψ0 w)
 (Ax:α->Act->(Nat->Prop)->A->Prop) (bd:bi w.heap.size (fun(s:α×Act) Ψ W=>Ax s.1 s.2 Ψ W))
 (bf:∀(l:Nat) (b:List α) (x:α) (Ψ:Nat->Prop) (d:A) (K:Act->A->Prop),i b Ψ d->i b (λk=>Ψ k\/Φ x k) d->V (b++[x]) Ψ d->(∀k,Ψ k->k<d.heap.size)->
  (∀z m,ic d d m->i b Ψ m->Ax x z Ψ m->K z m)->
  assign.wpIn (Fence.wide.inRound l) 0 P (Exit.then K (λ_ _ _=>False)) {tmps:=(ps.zip (encs x)).foldl (λt (p,v)=>t.setIfInBounds p v) a.tmps,defers:=[]} d)
 (bg:∀(l:Nat) (b:List α) (x:α) (Ψ:Nat->Prop) (z:Act) (d:A),i b Ψ d->Ax x z Ψ d->(∃o e,V (b++[x]) o e)->(∀k,Ψ k->k<d.heap.size)->w.heap.size+2<=d.heap.size->l=w.heap.size+1->d.heap[w.heap.size]?=T (.deferred (T []))->(∃r,d.heap[w.heap.size+1]?=T (.loop r))->
  body.wpIn (Fence.wide.inRound l) 0 P (uc w.heap.size n₀ i Q (b++[x]) Ψ d) z d)
 (bh:∀(D:Nat) (xs:List α) (Ψ:Nat->Prop) (W:A),D=w.heap.size->S xs->i xs Ψ W->W.heap[D]?=T (.deferred (T []))->au .normal {a with defers:={target:=.collected D,args:=#[]}::a.defers} W)
 (bk:∀(D:Nat) (c:jM) (b:List α) (Ψ:Nat->Prop) (W:A),D=w.heap.size->Sp b->Q c b Ψ W->W.heap[D]?=T (.deferred (T []))->c.wpIn Fence.wide n P au {a with defers:={target:=.collected D,args:=#[]}::a.defers} W):
 (Code.rangeFunc g ps assign body).wpIn Fence.wide n P au a w:=by
 refine wpIn_rangeFunc ?_;intro fn bl;obtain⟨f,l⟩:∃f:LoopState->Option jM->Loop,f=λH K=>{state:=H,pending:=K,fn,tmps:=a.tmps,params:=ps,assign,body,defers:=w.heap.size}:=⟨_,rfl⟩
 obtain⟨j,M⟩:∃j,(w.alloc (.deferred (T []))).alloc (.loop (f .ready hF))=j:=⟨_,rfl⟩;have bC:j.heap.size=w.heap.size+2:=by rw[<-M];simp
 have bm:j.heap[w.heap.size+1]?=T (.loop (f .ready hF)):=by
  rw[<-M];have:=jn (w.alloc (.deferred (T []))) (.loop (f .ready hF));rwa [jO]at this
 have bn:j.heap[w.heap.size]?=T (.deferred (T [])):=by
  rw[<-M];exact(jk _ _ _ av).trans (jn w _)
 have bo:i [] Ψ0 j:=by rw[<-M];exact F.keep (F.keep h0 (aZ.alloc _ _ _ _)) (aZ.alloc _ _ _ _)
 have bq:ic w w j:=by
  rw[<-M];exact(((js _ w).alloc (jh _) _).alloc av _)
 let U (H:LoopState) (K:Option jM) (Ψ:Nat->Prop) (W:A):Prop:=
  W.heap[w.heap.size+1]?=T (.loop (f H K))/\W.heap[w.heap.size]?=T (.deferred (T []))/\¬Ψ w.heap.size/\¬Ψ (w.heap.size+1)
 have ba:∀H K,bi j.heap.size (fun(_:List α) Ψ W=>U H K Ψ W):=by
  rintro H K s Ψ o d B ⟨p,q,D,E⟩ e X r;have a1:=(jy.1 p).1;have y:¬o w.heap.size:=λh=>by rcases r _ h with h|h;exact D h;omega
  have C:¬o (w.heap.size+1):=λh=>by rcases r _ h with h|h;exact E h;omega
  refine⟨?_,?_,y,C⟩
  ·rcases e.block _ a1 C with h|⟨h,_⟩
   ·exact h.trans p
   omega
  rcases e.block _ Y y with h|⟨h,_⟩
  ·exact h.trans q
  omega
 have up:∀{β:Type} {i:β->(Nat->Prop)->A->Prop},bi w.heap.size i->bi j.heap.size i:=by
  intro β i h s Ψ o d B r e p q;refine h s Ψ o d B r ⟨e.os,e.tape,e.output,e.size,λk hk C=>?_⟩ p q
  rcases e.block k hk C with h|⟨h,y⟩
  ·exact .inl h
  exact .inr ⟨by omega,y⟩
 have br:bi j.heap.size (fun(b:List α) Ψ W=>∃c,Q c b Ψ W/\U .done (T c) Ψ W):=by
  rintro s Ψ o d B ⟨c,r,y⟩ e p q;exact⟨c,up (R c) s Ψ o d B r e p q,ba _ _ s Ψ o d B y e p q⟩
 refine⟨w.heap.size+1,[{target:=.collected w.heap.size,args:=#[]}],j,{target:=.fn (.func gf) lb,args:=#[.func (.yield (w.heap.size+1)) #[] #[]]},j,gf,
  #[.func (.yield (w.heap.size+1)) #[] #[]]++lb,j,?_,?_,?_,?_,?_,?_⟩
 ·rw[<-M,l];exact run_enterLoop_outer _ _ _ _ _
 ·simp only[resolve,hg]
  simp[go_sem]
 ·intro e d;simp[Target.leads]at d;subst d;trivial
 ·simp[invoke,go_sem,eg]
 ·intro h;simp[Fence.wide]at h
 refine callsIn_wide.2 ((Sr (w.heap.size+1) (λb Ψ W=>i b Ψ W/\U .ready hF Ψ W) (λb Ψ W=>∃c,Q c b Ψ W/\U .done (T c) Ψ W) j bq
  ((up F).and (ba _ _)) br (λu Ψ B h=>hG u Ψ B h.1) ?_ ⟨bo,bm,bn,λh=>by have:=Tr _ h;omega,λh=>by have:=Tr _ h;omega⟩).mono ?_)
 ·
  rintro b x Ψ W ⟨X,q,hk,hd,aa⟩ ⟨bs,-⟩ a2 bb;have a1:w.heap.size+1<W.heap.size:=(jy.1 q).1;have hy:=run_yield (P:=P) (args:=encs x) q (by rw[l];exact Vb x);rw[l]at hy;refine⟨fn,_,assign,body,hy,roundIn_of_wpIn bl (bf _ b x Ψ W _ X bs bb a2 ?_)⟩;intro z m ad bu bv;have a3:m.heap[w.heap.size+1]?=T (.loop (f .ready hF)):=(ad.block _ a1).trans q;have bw:m.heap[w.heap.size]?=T (.deferred (T [])):=(ad.block _ Y).trans hk;have bA:w.heap.size+1<m.heap.size:=(jy.1 a3).1;refine⟨_,run_beginRound a3 (by rw[l]),?_⟩;have a4:(m.putObj (w.heap.size+1) (.loop {f .ready hF with state:=.busy})).heap[w.heap.size+1]?=T (.loop {f .ready hF with state:=.busy}):=qV bA;have a5:(m.putObj (w.heap.size+1) (.loop {f .ready hF with state:=.busy})).heap[w.heap.size]?=T (.deferred (T [])):=(jW Y).trans bw;have t2:aZ w.heap.size Ψ m (m.putObj (w.heap.size+1) (.loop {f .ready hF with state:=.busy})):=aZ.putObj _ a3 rfl Y;refine wpIn_mono (bg _ b x Ψ z _ (F.keep bu t2) (bd.keep (s:=(x,z)) bv t2) ⟨_,_,bb⟩ (λk B=>by have:=a2 k B;have:=ad.size;simp[oj];omega) (by simp[oj];omega) rfl a5 ⟨_,a4⟩) ?_;obtain⟨r,Q8⟩:∃r,m.putObj (w.heap.size+1) (.loop {f .ready hF with state:=.busy})=r:=⟨_,rfl⟩;have bc:ic n₀ W r:=by rw[<-Q8];exact(ad.mono Y).trans (gZ Y)
  have bB:∀k,Ψ k->k<W.heap.size->r.heap[k]?=W.heap[k]?:=by
   intro k B D;rw[<-Q8,jW (by intro e;subst e;exact aa B),ad.block k D]
  have bI:W.heap.size<=r.heap.size:=bc.size;rw[Q8]at a4 a5⊢;have al:∀(h:Option jM) (d:A),((d.heap[w.heap.size]?=r.heap[w.heap.size]?/\d.heap[w.heap.size+1]?=r.heap[w.heap.size+1]?)/\ic n₀ r d/\∀k,Ψ k->d.heap[k]?=r.heap[k]?)->
   (Instr.endRound (w.heap.size+1) h).run P d=.ok (.bool h.isNone) (d.putObj (w.heap.size+1) (.loop (f (if h.isNone then .ready else .done) h)))/\
   aZ w.heap.size Ψ d (d.putObj (w.heap.size+1) (.loop (f (if h.isNone then .ready else .done) h)))/\
   U (if h.isNone then .ready else .done) h Ψ (d.putObj (w.heap.size+1) (.loop (f (if h.isNone then .ready else .done) h)))/\
   ic n₀ W (d.putObj (w.heap.size+1) (.loop (f (if h.isNone then .ready else .done) h)))/\
   ∀k,Ψ k->(d.putObj (w.heap.size+1) (.loop (f (if h.isNone then .ready else .done) h))).heap[k]?=W.heap[k]?:=by
   rintro h d ⟨o,u,y⟩;have E:=o.2.trans a4;have p:=run_endRound (P:=P) h E;rw[l]at p⊢;refine⟨p,aZ.putObj _ E rfl Y,⟨?_,(jW Y).trans (o.1.trans a5),hd,aa⟩,(bc.trans u).trans (gZ Y),λk B=>?_⟩
   ·rw[l];exact qV (jy.1 E).1
   rw[jW (by intro e;subst e;exact aa B),y k B]
   by_cases D:k<W.heap.size
   ·exact bB k B D
   exact absurd (a2 k B) D
  rintro e bK d C
  cases e with
  |normal=>
   obtain⟨o,B⟩:=C;obtain⟨p,D,u,E,y⟩:=al hF d o;exact⟨_,_,p,.inl ⟨rfl,⟨F.keep B D,u⟩,E,y⟩⟩
  |ret=>
   obtain⟨o,B⟩:=C;obtain⟨p,D,u,E,y⟩:=al (T .ret) d o;exact⟨_,_,p,.inr ⟨rfl,⟨.ret,(R _).keep B D,u⟩,E,y⟩⟩
  |exit id=>
   obtain⟨o,B⟩:=C;obtain⟨p,D,u,E,y⟩:=al (T (.exit id)) d o;exact⟨_,_,p,.inr ⟨rfl,⟨.exit id,(R _).keep B D,u⟩,E,y⟩⟩
  |goto t=>
   obtain⟨o,B⟩:=C;obtain⟨p,D,u,E,y⟩:=al (T (.goto t)) d o;exact⟨_,_,p,.inr ⟨rfl,⟨.goto t,(R _).keep B D,u⟩,E,y⟩⟩
  |panic o=>exact C.elim
  |outgrown=>exact C.elim
 
 rintro e k ⟨⟨v,rfl⟩,(⟨xs,Ψ,d,X,q,hk,hd,aa⟩|⟨b,Ψ,h,c,X,q,hk,hd,aa⟩)⟩
 ·exact⟨hF,_,by have:=run_endLoop (P:=P) q (by rw[l];simp);rw[l]at this;exact this,bh _ xs Ψ _ rfl d (F.keep X (aZ.putObj _ q rfl Y)) ((jW Y).trans hk)⟩
 exact⟨T c,_,by have:=run_endLoop (P:=P) q (by rw[l];simp);rw[l]at this;exact this,bk _ c b Ψ _ rfl h ((R c).keep X (aZ.putObj _ q rfl Y)) ((jW Y).trans hk)⟩
theorem nK{α:Type}{g:j8}{q:Array Tmp}{assign body:jM}{u:jv->Act->A->Prop}{a:Act}{w:A}{n:Nat}
 {gf:Nat} {lb:Array hH} (C:a.eval g=.func (.func gf) #[] lb) (E:∀args w,(ob gf args).run P w=.ok (.enter gf args) w)
 {encs:α->Array hH} {y:Nat->Prop} {n₀:Nat} {S z V:List α->Prop} (F:dI P gf lb encs y n₀ S z V w)
 (H:n₀<=w.heap.size) (M:∀x,(encs x).size=q.size) (Q:∀k,y k->k<w.heap.size)
 (f:List α->(Nat->Prop)->A->Prop) (m:jM->List α->(Nat->Prop)->A->Prop) (R:bi w.heap.size f) (U:∀c,bi w.heap.size (m c)) (X:f [] y w)
 (o:α->Act->(Nat->Prop)->A->Prop) (aa:bi w.heap.size (fun(s:α×Act) Ψ W=>o s.1 s.2 Ψ W))
 (s:∀(l:Nat) (b:List α) (x:α) (Ψ:Nat->Prop) (d:A) (K:Act->A->Prop),f b Ψ d->V (b++[x])->
  (∀i e,ic d d e->f b Ψ e->o x i Ψ e->K i e)->
  assign.wpIn (Fence.wide.inRound l) 0 P (Exit.then K (λ_ _ _=>False)) {tmps:=(q.zip (encs x)).foldl (λt (p,v)=>t.setIfInBounds p v) a.tmps,defers:=[]} d)
 (t:∀(l:Nat) (b:List α) (x:α) (Ψ:Nat->Prop) (i:Act) (d:A),f b Ψ d->o x i Ψ d->V (b++[x])->(∀k,Ψ k->k<d.heap.size)->w.heap.size<=d.heap.size->(∃r,d.heap[l]?=T (.loop r))->
  body.wpIn (Fence.wide.inRound l) 0 P (nD w.heap.size n₀ f m (b++[x]) Ψ d) i d)
 (v:∀(D:Nat) (xs:List α) (Ψ:Nat->Prop) (W:A),w.heap.size<=D->S xs->f xs Ψ W->W.heap[D]?=T (.deferred (T []))->u .normal {a with defers:={target:=.collected D,args:=#[]}::a.defers} W)
 (ad:∀(D:Nat) (c:jM) (b:List α) (Ψ:Nat->Prop) (W:A),w.heap.size<=D->z b->m c b Ψ W->W.heap[D]?=T (.deferred (T []))->c.wpIn Fence.wide n P u {a with defers:={target:=.collected D,args:=#[]}::a.defers} W):
 (Code.rangeFunc g q assign body).wpIn Fence.wide n P u a w:=by
 refine wN C E F.v H M Q f m R (λ_ _ _ _=>trivial) U X o aa (λl b x Ψ d K p _ j _ hk=>s l b x Ψ d K p j hk) (λl b x Ψ i d p K j hΨ e h h1 k=>?_) (λD xs Ψ W e=>v D xs Ψ W (lo e.symm)) (λD c b Ψ W e=>ad D c b Ψ W (lo e.symm));obtain⟨-,-,j⟩:=j;obtain⟨r,k⟩:=k;exact wpIn_mono (t l b x Ψ i d p K j hΨ Y ⟨r,by rw[h];exact k⟩) λe a B h=>nD.two h1 k h
end
section
section
variable {P:jq} {ops:Array jf} {Q:jv->Act->A->Prop} {md:Region.Mode} {S:A->Prop}
def p8(ops:Array jf):Bool:=ops.all λo=>match o.op with| .defer .. =>false|_=>true
theorem ME(h:p8 ops=true)(j:Nat)(o:jf)(c:Call)(a:ops[j]?=T o):o.op≠.defer c:=by
 intro b;have:=jY.1 h o (Array.mem_of_getElem? a);simp[b]at this
theorem FQ{l n i:Nat}(e:¬LetsOut Q)(g:p8 ops=true){K:Act->A->Prop}{a:Act}{w:A}
 (h:jo P ops Q i K a w):wpOpIn (Fence.wide.inRound l) n P ops Q i K a w:=by
 unfold jo at h;unfold wpOpIn
 cases ho:ops[i]? with
 |none=>simpa [ho]using h
 |some o=>
  simp only[ho]at h⊢
  split
  ·rename_i b
   simp only[b,if_true]at h
   rcases h with h|⟨_,j⟩
   ·refine⟨λ_ _=>trivial,?_⟩
    show o.uponIn (Fence.wide.inRound l) n P a K Q ((o.semAt (T l) a.eval).run P w);rw[Oper.semAt_eq _ _ _ (λc=>ME g i o c ho)];unfold Oper.wp at h;generalize(jE a.eval o).run P w=r at*
    cases r with
    |ok x w'=>
     cases x<;>simp only[Oper.upon]at h<;>simp only[Oper.uponIn]
     case value u=>exact h
     case skip=>exact h
     case defer d=>exact h
     case enter f args=>exact⟨by simp[Fence.inRound,Fence.wide],CallsIn.inRound l (callsIn_wide.2 h)⟩
     case row row args=>exact⟨by simp[Fence.inRound,Fence.wide],λc cs _=>by
      obtain⟨v,k,r,s⟩:=h c cs;exact⟨v,k,r,stepsIn_wide.2 s⟩⟩
    |halt x w'=>cases x<;>simp only[Oper.upon]at h<;>simp only[Oper.uponIn]<;>exact h
   exact absurd j e
  rename_i b;simp only[b]at h;exact⟨λ_ _=>trivial,h⟩
theorem za{l n:Nat}(b:¬LetsOut Q)(c:p8 ops=true):∀(fuel:Nat) (d:Array Bool) (a:Act) (w:A),
 wpAny P md ops Q fuel d a w->wpAnyIn (Fence.wide.inRound l) n P md ops Q fuel d a w
 |0,_,_,_,h=>h
 |fuel+1,_,_,_,h=>⟨h.1,λi e=>FQ b c (jC (λf w' g=>za b c fuel _ f w' g) (h.2 i e))⟩
def Closed(md:Region.Mode)(ops:Array jf)(a:Array Bool):Prop:=∀(j:Nat) b,ops[j]?=T b->a.getD j false=true->∀e∈b.after,Region.binds md e=true->a.getD e.on false=true
theorem Fv{a:Array Bool}{i k:Nat}(h:a.getD k false=true):(a.setIfInBounds i true).getD k false=true:=by
 rw[lv]at h⊢;rw[Array.getElem?_setIfInBounds]
 split
 ·rename_i e
  subst e
  split
  ·rfl
  rename_i b;rw[qi Y]at h
  cases h
 exact h
theorem Closed.zero(n:Nat):Closed md ops (jZ n false):=λj a _ h=>by
 rw[lv,Array.getElem?_replicate]at h
 split at h<;>cases h
theorem Closed.set{a:Array Bool}{i:Nat}(h:Closed md ops a)(g:i∈Region.ready md ops a):Closed md ops (a.setIfInBounds i true):=by
 intro j k b l e he c;refine Fv ?_
 by_cases d:j=i
 ·subst d
  obtain⟨-,o,f,m⟩:=mem_ready.1 g;rw[b]at f
  cases f
  exact m e he c
 refine h j k b ?_ e he c
 rwa [lv,Array.getElem?_setIfInBounds_ne (Ne.symm d),<-lv]at l
def mM(md:Region.Mode)(ops:Array jf):Nat->Nat->Nat->Bool
 |0,_,_=>false
 |n+1,j,i=>match ops[j]? with|none=>false|some o=>o.after.any λe=>Region.binds md e&&(e.on==i||mM md ops n e.on i)
theorem DX{a:Array Bool}(c:Closed md ops a){i:Nat}:∀(n j:Nat) b,ops[j]?=T b->(∀e∈b.after,Region.binds md e=true->a.getD e.on false=true)->mM md ops n j i=true->a.getD i false=true
 |0,_,_,_,_,h=>by cases h
 |n+1,j,b,d,f,h=>by
  rw[mM,d]at h;simp only[Array.any_eq_true',jA,qj,beq_iff_eq]at h;obtain⟨e,he,g,h⟩:=h;have k:=f e he g
  rcases h with h|h
  ·rwa [<-h]
  cases hk:ops[e.on]? with
  |none=>cases n<;>simp[mM,hk]at h
  |some ok=>exact DX c n e.on ok hk (c e.on ok hk k) h
def fO(P:jq)(md:Region.Mode)(ops:Array jf)(Q:jv->Act->A->Prop)(S:A->Prop)(f:Nat):Nat->Array Bool->Act->A->Prop
 |0,b,a,w=>Region.ready md ops b=[]/\Q .normal a w
 |fuel+1,b,a,w=>Closed md ops b->
  (Region.ready md ops b=[]->Q .normal a w)/\
  ∀i∈Region.ready md ops b,jo P ops Q i (λc w'=>(f<=i\/S w')/\fO P md ops Q S f fuel (b.setIfInBounds i true) c w') a w
theorem ra{f:Nat}:∀(fuel:Nat) (b:Array Bool) (a:Act) (w:A),Closed md ops b->fO P md ops Q S f fuel b a w->wpAny P md ops Q fuel b a w
 |0,_,_,_,_,h=>h
 |fuel+1,_,_,_,c,h=>⟨(h c).1,λi d=>jC (λe w' g=>ra fuel _ e w' (c.set d) g.2) ((h c).2 i d)⟩
def NV(P:jq)(r:Result Next)(v:hH)(w:A):Prop:=
 r=.ok (.value v) w\/∃f args,r=.ok (.enter f args) w/\jd P f args w λe w'=>e=jb v/\w'=w
def eP(P:jq)(ops:Array jf)(S:A->Prop)(o:jf)(v:hH)(a:Act):Prop:=
 (Region.wanted o (jN ops a.tmps)=true/\∀w,S w->NV P ((jE a.eval o).run P w) v w)\/
 (Region.wanted o (jN ops a.tmps)=false/\v=jj)
theorem eP.wpOp{i:Nat}{o:jf}{v:hH}{a:Act}(d:ops[i]?=T o)(g:eP P ops S o v a)
 {K:Act->A->Prop} {w:A} (j:S w) (h:K (a.put o.dst v) w):jo P ops Q i K a w:=by
 unfold Go.wpOp;simp only[d]
 rcases g with⟨b,k⟩|⟨b,rfl⟩
 ·simp only[b,if_true]
  refine .inl ?_;unfold Oper.wp
  rcases k w j with c|⟨f,args,c,l⟩
  ·rw[c];exact h
  rw[c];simp only[Oper.upon];refine l.mono ?_;rintro e w' ⟨rfl,rfl⟩;exact h
 simp only[b,Bool.false_eq_true,if_false];exact h
theorem eP.of_same{o:jf}{v:hH}{a b:Act}(c:eP P ops S o v a)(he:jE b.eval o=jE a.eval o)
 (d:Region.wanted o (jN ops b.tmps)=Region.wanted o (jN ops a.tmps)):eP P ops S o v b:=by
 unfold eP at*;rw[he,d];exact c
theorem IP{j:Nat}{g:jf}(k:ops[j]?=T g){K:Act->A->Prop}{a:Act}{w:A}(h:jo P ops Q j K a w):
 jo P ops Q j (λc w'=>(∃d b,c=Act.put {a with defers:=d} g.dst b)/\K c w') a w:=by
 unfold jo at*;simp only[k]at*
 split
 ·rename_i i
  simp only[i,if_true]at h
  rcases h with h|h
  case inr=>exact .inr h
  refine .inl ?_;unfold Oper.wp at*;generalize(jE a.eval g).run P w=r at*
  cases r with
  |halt x w'=>cases x<;>exact h
  |ok n w'=>
   cases n<;>simp only[Oper.upon]at h⊢
   case value b=>exact⟨⟨a.defers,b,rfl⟩,h⟩
   case skip=>exact⟨⟨a.defers,jj,rfl⟩,h⟩
   case defer d=>exact⟨⟨d::a.defers,jj,rfl⟩,h⟩
   case enter f args=>
    refine Calls.mono h λe l he=>?_
    cases e with
    |returned b=>exact⟨⟨a.defers,b,rfl⟩,he⟩
    |panicked c=>exact he
    |outgrown=>exact he
   case row row args=>exact Rows.mono h λb l he=>⟨⟨a.defers,b,rfl⟩,he⟩
 rename_i i;simp only[i]at h;exact⟨⟨a.defers,jj,rfl⟩,h⟩
theorem Mo{j:Nat}{e f:jf}{v:hH}(g:ops[j]?=T f)(i:e.apart ops f=true)
 (k:∀cs b,e.op≠.select cs b) (m:∀cs b,f.op≠.select cs b)
 (n:∀c a w,Q (.panic c) (a.put e.dst v) w->Q (.panic c) a w) {K:Act->A->Prop} {a:Act} {w:A}
 (c:eP P ops S e v a) (h:jo P ops Q j K (a.put e.dst v) w):
 jo P ops Q j (λb w'=>eP P ops S e v b/\K (b.put e.dst v) w') a w:=by
 have o:YieldsIf P ops (λ_=>False) e v a:=c.imp (fun⟨h,_⟩=>⟨h,λ_ h=>h.elim⟩) id;obtain⟨_,_,l⟩:=Oper.apart_spec i;refine jC (λb w' h=>?_) (IP g (wpOp_putIf g i k m n o h));obtain⟨⟨d,b,rfl⟩,_,p⟩:=h;have q:eP P ops S e v {a with defers:=d}:=c.of_same rfl rfl;exact⟨q.of_same (execOp_put e k _ f.dst b l) (wanted_put e _ f.dst b l),p⟩
theorem sW{f i:Nat}{q:jf}{v:hH}(x:ops[i]?=T q)(z:∀(j:Nat) (o:jf) cs b,ops[j]?=T o->o.op≠.select cs b)
 (M:∀c a d v w,Q (.panic c) (Act.put a d v) w->Q (.panic c) a w):∀(fuel:Nat) (g:Array Bool) (a:Act) (w:A),
  (∀j l,ops[j]?=T l->j≠i->g.getD j true=false->(∀e∈l.after,Region.binds md e=true->e.on≠i)->q.apart ops l=true)->
  (∀(j:Nat) l,ops[j]?=T l->f<=j->j≠i->∃n,mM md ops n j i=true)->
  i∈Region.ready md ops g->eP P ops S q v a->S w->
  fO P md ops Q S f fuel (g.setIfInBounds i true) (a.put q.dst v) w->fO P md ops Q S f (fuel+1) g a w:=by
 intro fuel
 induction fuel with
 |zero=>
  intro g a w _ _ m t r H;refine λy=>⟨λh=>(by rw[h]at m;cases m),λj u=>?_⟩
  by_cases o:j=i
  ·rw[o];exact t.wpOp x r ⟨.inr r,H⟩
  have d:=ready_mono u o;rw[H.1]at d
  cases d
 |succ fuel R=>
  intro g a w B C m t r H;refine λy=>⟨λh=>(by rw[h]at m;cases m),λj u=>?_⟩
  by_cases o:j=i
  ·rw[o];exact t.wpOp x r ⟨.inr r,H⟩
  obtain⟨D,l,s,E⟩:=mem_ready.1 u;have U:∀e∈l.after,Region.binds md e=true->e.on≠i:=λe he V W=>by
   have d:=E e he V;have p:=(mem_ready.1 m).1;rw[W]at d
   rcases lw i g.size with k|k
   ·simp[k]at p d;rw[p]at d;cases d
   simp[qi k]at d
  have X:∀k ok,ops[k]?=T ok->k≠i->(g.setIfInBounds j true).getD k true=false->
   (∀e∈ok.after,Region.binds md e=true->e.on≠i)->q.apart ops ok=true:=λk ok hk aa F PQ=>by
   refine B k ok hk aa ?_ PQ
   by_cases K:j=k
   ·rw[<-K];exact D
   rw[getD_set_ne true K]at F;exact F
  have K:i∈Region.ready md ops (g.setIfInBounds j true):=ready_mono m (Ne.symm o);refine jC (λa' w' h3=>?_) (Mo s (B j l s o D U) (λcs b=>z i q cs b x) (λcs b=>z j l cs b s) (λc a w=>M c a _ _ w) t ((H (y.set m)).2 j (ready_mono u o)));obtain⟨aa,ad,h4⟩:=h3;have F:S w':=by
   rcases ad with c|c
   ·obtain⟨n,hn⟩:=C j l s c o
    have d:=DX y n j l s E hn;have p:=(mem_ready.1 m).1;rw[lv]at p d
    cases hq:g[i]? with
    |none=>rw[hq]at d;cases d
    |some b=>rw[hq]at p d;simp at p d;rw[p]at d;cases d
   exact c
  refine⟨.inr F,R (g.setIfInBounds j true) a' w' X C K aa F ?_⟩;rw[qW _ _ o];exact h4
theorem YieldsIf.q{o:jf}{v:hH}{a:Act}(h:YieldsIf P ops S o v a):eP P ops S o v a:=h.imp (fun⟨b,c⟩=>⟨b,λw d=>.inl (c w d)⟩) id
def wD(md:Region.Mode)(ops:Array jf)(f i:Nat):Bool:=
 (List.range ops.size).all λj=>decide (j<f)||j==i||mM md ops 4 j i
theorem BI{f i:Nat}(h:wD md ops f i=true):∀(j:Nat) b,ops[j]?=T b->f<=j->j≠i->∃n,mM md ops n j i=true:=by
 intro j b c e d;have a:=qX.1 h j (qY.2 (jy.1 c).1);simp only[qj,decide_eq_true_eq,beq_iff_eq,d,or_false]at a
 rcases a with a|a
 ·omega
 exact⟨4,a⟩
theorem AJ(j:Nat)(a:jf)(b:ops[j]?=T a)(h:ops.size<=j):False:=by
 have:=(jy.1 b).1;omega
def gQ(md:Region.Mode)(ops:Array jf)(f:Nat):List (Nat×Bool)->Array Bool->Bool
 |[],a=>Region.ready md ops a==[]
 |(i,true)::b,a=>Region.free md ops a i&&(Region.ready md ops a).contains i&&wD md ops f i&&gQ md ops f b (a.setIfInBounds i true)
 |(i,false)::b,a=>Region.ready md ops a==[i]&&gQ md ops f b (a.setIfInBounds i true)
def uF(f:Nat)(l:List (Nat×Bool)):Bool:=l.all λx=> !x.2&&decide (f<=x.1)
def fb(P:jq)(ops:Array jf)(Q:jv->Act->A->Prop)(S:A->Prop)(f:Nat):List (Nat×Bool)->Act->A->Prop
 |[],a,w=>Q .normal a w
 |(i,true)::b,a,w=>∃o v,ops[i]?=T o/\eP P ops S o v a/\fb P ops Q S f b (a.put o.dst v) w
 |(i,false)::b,a,w=>jo P ops Q i (λc w'=>(f<=i/\uF f b=true/\fb P ops Q S f b c w')\/(S w'/\(S w'->fb P ops Q S f b c w'))) a w
theorem pV{f:Nat}(g:Region.noSelect ops=true)(k:∀c a d v w,Q (.panic c) (Act.put a d v) w->Q (.panic c) a w):
 ∀(l:List (Nat×Bool)) (b:Array Bool) (a:Act) (w:A),gQ md ops f l b=true->(uF f l=true\/S w)->fb P ops Q S f l a w->fO P md ops Q S f l.length b a w
 |[],b,a,w,hk,_,h=>⟨by simpa [gQ]using hk,h⟩
 |(i,true)::d,b,a,w,hk,e,⟨o,v,m,p,h⟩=>by
  have e:S w:=e.resolve_left (by simp[uF]);simp only[gQ,jA]at hk;exact sW m (Region.noSelect_spec g) k d.length b a w (Region.free_spec m hk.1.1.1) (BI hk.1.2) (by simpa using hk.1.1.2) p e (pV g k d _ _ _ hk.2 (.inr e) h)
 |(i,false)::d,b,a,w,hk,e,h=>by
  simp only[gQ,jA,beq_iff_eq]at hk;refine λ_=>⟨λq=>(by rw[q]at hk;simp at hk),λj n=>?_⟩
  obtain rfl:j=i:=by rw[hk.1]at n;simpa using n
  refine jC (λr w' c=>?_) h
  rcases c with⟨r,s,t⟩|c
  ·exact⟨.inl r,pV g k d _ _ _ hk.2 (.inl s) t⟩
  exact⟨.inr c.1,pV g k d _ _ _ hk.2 (.inr c.1) (c.2 c.1)⟩
theorem uZ{b:Nat}{a:Act}{w:A}(S:A->Prop)(f:Nat)(l:List (Nat×Bool))(e:P.follows .mixedOrders=true)(g:Region.noSelect ops=true)
 (hk:gQ .any ops f l (jZ ops.size false)=true) (i:l.length=ops.size) (j:∀c a d v w,Q (.panic c) (Act.put a d v) w->Q (.panic c) a w)
 (c:S w.drew) (h:fb P ops Q S f l a w.drew):(Code.region b ops true).wp P Q a w:=
 wp_region_any e (ra _ _ _ _ (Closed.zero _) (by have:=pV g j l _ a _ hk (.inr c) h;rw[i]at this;exact this))
theorem tb{r n:Nat}{b:Nat}{a:Act}{w:A}(S:A->Prop)(f:Nat)(l:List (Nat×Bool))(e:P.follows .mixedOrders=true)(g:Region.noSelect ops=true)(i:p8 ops=true)
 (hk:gQ .any ops f l (jZ ops.size false)=true) (j:l.length=ops.size) (k:∀c a d v w,Q (.panic c) (Act.put a d v) w->Q (.panic c) a w) (c:¬LetsOut Q)
 (d:S w.drew) (h:fb P ops Q S f l a w.drew):(Code.region b ops true).wpIn (Fence.wide.inRound r) n P Q a w:=
 wpIn_region_any e (za c i _ _ _ _ (ra _ _ _ _ (Closed.zero _) (by have:=pV g k l _ a _ hk (.inr d) h;rw[j]at this;exact this)))
theorem ib{b:Nat}{a:Act}{w:A}(S:A->Prop)(f:Nat)(l:List (Nat×Bool))(e:P.follows .mixedOrders=true)(g:Region.noSelect ops=true)
 (hk:gQ .any ops f l (jZ ops.size false)=true) (i:l.length=ops.size) (j:∀c a d w,Q (.panic c) a w->Q (.panic c) d w)
 (k:S w.drew) (h:fb P ops Q S f l a w.drew):(Code.region b ops true).wp P Q a w:=
 uZ S f l e g hk i (λc a d v w=>j c _ a w) k h
theorem Er{r n:Nat}{b:Nat}{a:Act}{w:A}(S:A->Prop)(f:Nat)(l:List (Nat×Bool))(e:P.follows .mixedOrders=true)(g:Region.noSelect ops=true)(i:p8 ops=true)
 (hk:gQ .any ops f l (jZ ops.size false)=true) (j:l.length=ops.size) (k:∀c a d w,Q (.panic c) a w->Q (.panic c) d w) (m:¬LetsOut Q)
 (o:S w.drew) (h:fb P ops Q S f l a w.drew):(Code.region b ops true).wpIn (Fence.wide.inRound r) n P Q a w:=
 tb S f l e g i hk j (λc a d v w=>k c _ a w) m o h
theorem cR{f i:Nat}{o:jf}{v:hH}{b:List (Nat×Bool)}{a:Act}{w:A}(c:ops[i]?=T o)(d:Region.wanted o (jN ops a.tmps)=true)
 (e:∀w,S w->(jE a.eval o).run P w=.ok (.value v) w) (h:fb P ops Q S f b (a.put o.dst v) w):fb P ops Q S f ((i,true)::b) a w:=
 ⟨o,v,c,.inl ⟨d,λw g=>.inl (e w g)⟩,h⟩
theorem Ha{f i:Nat}{o:jf}{b:List (Nat×Bool)}{a:Act}{w:A}(c:ops[i]?=T o)(d:Region.wanted o (jN ops a.tmps)=false)
 (h:fb P ops Q S f b (a.put o.dst jj) w):fb P ops Q S f ((i,true)::b) a w:=
 ⟨o,jj,c,.inr ⟨d,rfl⟩,h⟩
theorem aS{f i:Nat}{o:jf}{c:List (Nat×Bool)}{a:Act}{w:A}(e:ops[i]?=T o)
 (h:∀b:Act->A->Prop,Shut (∀a w,S w->(S w->fb P ops Q S f c a w)->b a w)->if Region.wanted o (jN ops a.tmps)=true then Oper.wp P o a w b Q else b (a.put o.dst jj) w):
 fb P ops Q S f ((i,false)::c) a w:=
 wpOp_step e λb g=>h b (λa w d j=>g a w (.inr ⟨d,λ_=>j d⟩))
theorem gq{f:Nat}{o:jf}{a:Act}{w:A}(c:ops[f]?=T o)
 (h:∀b:Act->A->Prop,Shut (∀a w,Q .normal a w->b a w)->if Region.wanted o (jN ops a.tmps)=true then Oper.wp P o a w b Q else b (a.put o.dst jj) w):
 fb P ops Q S f [(f,false)] a w:=
 wpOp_step c λb d=>h b (λa w e=>d a w (.inl ⟨jh _,rfl,e⟩))
end
theorem bY{p q:Prop}(k:q)(h:q->p:=by intro k;refine cR (v:=?_) rfl (by rfl) (λW' hS=>?_) ?_;rotate_left;(go_simp;with_reducible rfl);(try simp only[Act.put,List.getElem_toArray,List.getElem_cons_succ,List.getElem_cons_zero,List.setIfInBounds_toArray,List.set_cons_zero,List.set_cons_succ]);exact k):p:=h k
theorem Bb{p q:Prop}(k:q)(h:q->p:=by intro k;refine cR (v:=?_) rfl (by rfl) (λW' hS=>?_) ?_;rotate_left;(clear hS;go_simp;with_reducible rfl);(try simp only[Act.put,List.getElem_toArray,List.getElem_cons_succ,List.getElem_cons_zero,List.setIfInBounds_toArray,List.set_cons_zero,List.set_cons_succ]);exact k):p:=h k
theorem OI{p q:Prop}(k:q)(h:q->p:=by intro k;refine cR (v:=?_) rfl (by rfl) (λW' hS=>?_) ?_;rotate_left;(obtain⟨s0,s1⟩:=hS;go_simp;with_reducible rfl);(try simp only[Act.put,List.getElem_toArray,List.getElem_cons_succ,List.getElem_cons_zero,List.setIfInBounds_toArray,List.set_cons_zero,List.set_cons_succ]);exact k):p:=h k
theorem sI{p q:Prop}(k:q)(h:q->p:=by intro k;refine cR (v:=?_) rfl (by rfl) (λW' hS=>?_) ?_;rotate_left;(obtain⟨s0,s1,s2⟩:=hS;go_simp;with_reducible rfl);(try simp only[Act.put,List.getElem_toArray,List.getElem_cons_succ,List.getElem_cons_zero,List.setIfInBounds_toArray,List.set_cons_zero,List.set_cons_succ]);exact k):p:=h k
theorem kp{p q:Prop}(k:q)(h:q->p:=by intro k;refine cR (v:=?_) rfl (by rfl) (λW' hS=>?_) ?_;rotate_left;(obtain⟨s0,s1,s2,s3⟩:=hS;go_simp;with_reducible rfl);(try simp only[Act.put,List.getElem_toArray,List.getElem_cons_succ,List.getElem_cons_zero,List.setIfInBounds_toArray,List.set_cons_zero,List.set_cons_succ]);exact k):p:=h k
theorem te{p q:Prop}(k:q)(h:q->p:=by intro k;refine cR (v:=?_) rfl (by rfl) (λW' hS=>?_) ?_;rotate_left;(obtain⟨s0,s1,s2,s3,s4⟩:=hS;go_simp;with_reducible rfl);(try simp only[Act.put,List.getElem_toArray,List.getElem_cons_succ,List.getElem_cons_zero,List.setIfInBounds_toArray,List.set_cons_zero,List.set_cons_succ]);exact k):p:=h k
theorem OH{p q:Prop}(k:q)(h:q->p:=by intro k;refine cR (v:=?_) rfl (by rfl) (λW' hS=>?_) ?_;rotate_left;(obtain⟨k0,k1,k2,k3⟩:=hS;go_simp;with_reducible rfl);(try simp only[Act.put,List.getElem_toArray,List.getElem_cons_succ,List.getElem_cons_zero,List.setIfInBounds_toArray,List.set_cons_zero,List.set_cons_succ]);exact k):p:=h k
theorem OD{p q:Prop}(k:q)(h:q->p:=by intro k;refine cR (v:=?_) rfl (by rfl) (λW' hS=>?_) ?_;rotate_left;(obtain⟨k0,k1,k2,k3,k4⟩:=hS;go_simp;with_reducible rfl);(try simp only[Act.put,List.getElem_toArray,List.getElem_cons_succ,List.getElem_cons_zero,List.setIfInBounds_toArray,List.set_cons_zero,List.set_cons_succ]);exact k):p:=h k
theorem ON{p q:Prop}(k:q)(h:q->p:=by intro k;refine cR (v:=?_) rfl (by rfl) (λW' hS=>?_) ?_;rotate_left;(obtain⟨k0,k1,k2,k3,k4,k5⟩:=hS;go_simp;with_reducible rfl);(try simp only[Act.put,List.getElem_toArray,List.getElem_cons_succ,List.getElem_cons_zero,List.setIfInBounds_toArray,List.set_cons_zero,List.set_cons_succ]);exact k):p:=h k
theorem zc{p q:Prop}(k:q)(h:q->p:=by intro k;refine cR (v:=?_) rfl (by rfl) (λW' hS=>?_) ?_;rotate_left;(have b0:=hS;clear hS;go_simp;with_reducible rfl);(try simp only[Act.put,List.getElem_toArray,List.getElem_cons_succ,List.getElem_cons_zero,List.setIfInBounds_toArray,List.set_cons_zero,List.set_cons_succ]);exact k):p:=h k
theorem OO{p q:Prop}(k:q)(h:q->p:=by intro k;refine cR (v:=?_) rfl (by rfl) (λW' hS=>?_) ?_;rotate_left;(have b0:=hS.1.1;have b1:=hS.1.2;clear hS;go_simp;with_reducible rfl);(try simp only[Act.put,List.getElem_toArray,List.getElem_cons_succ,List.getElem_cons_zero,List.setIfInBounds_toArray,List.set_cons_zero,List.set_cons_succ]);exact k):p:=h k
theorem OG{p q:Prop}(k:q)(h:q->p:=by intro k;refine cR (v:=?_) rfl (by rfl) (λW' hS=>?_) ?_;rotate_left;(have b0:=hS.1.1;clear hS;go_simp;with_reducible rfl);(try simp only[Act.put,List.getElem_toArray,List.getElem_cons_succ,List.getElem_cons_zero,List.setIfInBounds_toArray,List.set_cons_zero,List.set_cons_succ]);exact k):p:=h k
theorem oH{p q:Prop}(k:q)(h:q->p:=by intro k;refine Ha rfl (by rfl) ?_;(try simp only[Act.put,List.getElem_toArray,List.getElem_cons_succ,List.getElem_cons_zero,List.setIfInBounds_toArray,List.set_cons_zero,List.set_cons_succ]);exact k):p:=h k
end
section
open Go.RowKit Go.Shelf
attribute [local go_sem] Oper.semAt_some
def PN:Nat:=4611686018427377339
theorem dX:PN=4611686018427377339:=rfl
theorem IS(a b:Nat)(f:a<PN)(g:b<PN)(w:A):
 jd hQ 186 #[N hK a,N hK b] w λe w'=>∃c d:Nat,e=jb (ju #[N hK c,N hK d])/\c<4611686018427377339/\d<18446744073709551616/\hZ (c*18446744073709551616+d=a*b)/\w=w':=by
 rw[dX]at f g;refine(yW a b Y Y w).mono ?_;rintro e w' ⟨rfl,rfl⟩;have h:a*b<=4611686018427377338*4611686018427377338:=Nat.mul_le_mul Y Y;refine⟨_,_,rfl,?_,mb _ G,O (by rw[jT];exact Nat.div_add_mod _ _),rfl⟩;generalize a*b=m at h;omega
theorem ID(a b:Nat)(f:a<4611686018427377339)(d:b<18446744073709551616)(w:A):
 jd hQ 187 #[N hK a,N hK b,N hK 4611686018427377339] w λe w'=>
  ∃(q:Int) (r:Nat),e=jb (ju #[N hK q,N hK r])/\hZ (r=(a*18446744073709551616+b)%PN)/\ic w w w':=by
 rcases j4 a with rfl|h
 ·refine(div64_0 b d w).mono ?_
  rintro e w' ⟨q,rfl,c⟩;exact⟨q,_,rfl,O (by rw[qk,jL,dX]),c⟩
 refine(div64_1 a b h f d w).mono ?_;rintro e w' ⟨q,rfl,c⟩;exact⟨q,_,rfl,O (by rw[dX]),c⟩
theorem wL(a b:Nat)(d:a<PN)(f:b<PN)(w:A):
 jd hQ 146 #[N hK a,N hK b] w λe w'=>∃c:Nat,e=jb (N hK c)/\hZ (c=a*b%PN)/\ic w w w':=by
 have g:=O (IS a b d f);clear d f
 go_enter func146,ntmps146
 go_wp2_with fail
 refine(g _).mono ?_;rintro e m ⟨h,i,rfl,d,f,j,rfl⟩;have k:=O (ID h i d f);clear d f
 go_wp2_with fail
 refine(k _).mono ?_;rintro e n ⟨q,r,rfl,f,d⟩;have l:=O d;clear d
 go_wp2_with fail
 go_ret;exact⟨r,rfl,O (by rw[f,j]),l⟩
def gt(k:Nat):Nat->List Bool
 |0=>[]
 |n+1=>(k/2^n%2==1)::gt k n
def pwL(a:Nat)(l:List Bool):Nat:=l.foldl (λc b=>if b=true then c*c%PN*a%PN else c*c%PN) 1
theorem uD(a:Nat)(l:List Bool)(b:Bool):pwL a (l++[b])=if b=true then pwL a l*pwL a l%PN*a%PN else pwL a l*pwL a l%PN:=by
 simp[pwL]
theorem C5(a:Nat):∀(l:List Bool) (c:Nat),c<PN->l.foldl (λc b=>if b=true then c*c%PN*a%PN else c*c%PN) c<PN
 |[],c,h=>h
 |b::r,c,h=>by
  rw[List.foldl_cons];refine C5 a r _ ?_
  split<;>exact mb _ (by rw[dX];decide)
theorem KY(a:Nat)(l:List Bool):pwL a l<PN:=C5 a l 1 (by rw[dX];decide)
theorem Mx(a m:Nat):a^m%PN*(a^m%PN)%PN=a^(2*m)%PN:=by
 rw[<-ql,<-qm,Nat.two_mul]
theorem yi(a k:Nat):∀n (l:List Bool) (m:Nat),pwL a l=a^m%PN->pwL a (l++gt k n)=a^(m*2^n+k%2^n)%PN
 |0,l,m,h=>by simp[gt,Nat.mod_one,h]
 |n+1,l,m,h=>by
  have hk:=Nat.mod_pow_succ (b:=2) (k:=n) (x:=k);have e:l++gt k (n+1)=(l++[(k/2^n%2==1)])++gt k n:=by simp[gt]
  rw[e]
  rcases qZ (k/2^n)with c|d
  ·rw[yi a k n _ (2*m) (by rw[uD,c,h];simp[<-qm,Nat.two_mul])]
   rw[hk,c,ol,Nat.mul_zero,Nat.add_zero,jT 2 m,qn,jT 2]
  rw[yi a k n _ (2*m+1) (by
   rw[uD,d,h];simp only[beq_self_eq_true,if_true,Mx];rw[ol,ql,Nat.mod_mod,<-ql])]
  rw[hk,d,ol,Nat.mul_one,Nat.add_mul,Nat.one_mul]
  congr 2
  rw[jT 2 m,qn,jT 2];omega
theorem s8(a k n:Nat)(hk:k<2^n):pwL a (gt k n)=a^k%PN:=by
 have h:=yi a k n [] 0 (by simp[pwL,dX]);rw[ms,qk,jL,jD hk]at h;exact h
theorem F8(k:Int)(w:A):
 jd hQ 145 #[N hK k] w λe w'=>e=jb (.func (.func 185) #[] #[jr (T ⟨w,0,hF⟩)])/\w'=w.alloc (hU #[N hK k] 148):=by
 go_enter func145,ntmps145
 go_wp2
 go_ret;exact⟨rfl,rfl⟩
theorem FB(k n:Nat)(hk:k<18446744073709551616)(c:bitLen k=n)(V:n<=64)(b:Nat)(w:A)(t:jl w b 148 (N hK k)):
 dI hQ 185 #[jr (T ⟨b,0,hF⟩)] (λm:Bool=>#[.bool m]) (·=b) 0 (λxs=>xs=gt k n) (λ_=>True) (λ_=>True) w:=by
 intro l u X W d f v g o;have x:jl W b 148 (N hK k):=(d.block b t.lt).trans t;have a:=O (rG k Y Y);rw[qo]at a;rw[c]at a;have y:=x.cell;refine(qQ (n:=0)).1 ?_;refine callsIn_of_wp func185 rfl trivial ?_ rfl;simp only[ntmps185,jI,j5,qs,qt,qu,qv,qw,qx,qy,ms,jP]
 gi_wp2_with fail
 refine⟨trivial,rfl,(callsIn_wide.2 (a _)).mono ?_⟩;rintro e w' ⟨rfl,rfl⟩;have hN:=O c;clear c y
 gi_wp2_with fail
 gi_loopw [3] (λs wr=>W.heap.size<=wr.heap.size/\∃(c:List Bool) (j:Nat) (i:Int),s=N ih i/\ -1<=i/\i<=63/\hZ (i=(j:Int)-1)/\hZ (c++gt k j=gt k n)/\u c (·=b) wr/\jl wr b 148 (N hK k))
  (λs wr=>(jg s+1).toNat)
 case atStart=>
  exact⟨jh _,[],n,_,rfl,by omega,by omega,O rfl,O rfl,o,x⟩
 obtain⟨E,c,j,i,rfl,aa,ad,s,z,p,q⟩:=hrel;have y:=q.cell
 by_cases B:0<=i
 ·obtain⟨m,rfl⟩:=q4 B
  have F:decide ((0:Int)<=(m:Int))=true:=by simp
  obtain rfl:j=m+1:=aw s;have hm:m<=63:=Y;have r:bits .and .u64 ((k:Int)/2^m) 1=((k/2^m%2:Nat):Int):=by
   have e:(k:Int)/2^m=((k/2^m:Nat):Int):=by simp
   have h:=q5 k (2^m);rw[e,show(1:Int)=((1:Nat):Int)from rfl,bits_and_u64_nat _ 1 Y G,Nat.and_one_is_mod]
  have H:(bits .and .u64 ((k:Int)/2^m) 1==1)=(k/2^m%2==1):=by
   rw[r]
   rcases qZ (k/2^m)with h|h<;>rw[h]<;>rfl
  obtain⟨C,h⟩:=J ((k/2^m%2==1));rw[<-h]at H;have K:=O h;clear r h;obtain⟨fn,tmps,assign,body,M,D⟩:=g c C (·=b) wr p (by rintro _ rfl;exact q.lt) trivial;have HJ:hZ (bi W.heap.size u):=f;clear f g o v d B a
  gi_wp2
  refine⟨rfl,D.mono ?_⟩;rintro e P (⟨rfl,Q,h,r⟩|⟨rfl,R,h,r⟩)
  ·have S:jl P b 148 (N hK k):=(r b rfl).trans q
   have U:=h.size;clear r h D M
   gi_wp2
   go_roundw
   case rel=>
    refine⟨jU E U,c++[C],m,(m:Int)-1,rfl,by omega,by omega,O rfl,?_,Q,S⟩;exact O (by rw[<-z,K];simp[gt])
   case measure=>simp only[jg];omega
  gi_wp2
  refine kw (qS rfl _ _ _) rfl ?_;exact⟨⟨_,rfl⟩,.inr ⟨_,_,trivial,R⟩⟩
 have F:=ar (0<=i);have h:j=0:=aw s;clear g o f v d a
 gi_wp2
 refine bodyPost_end (qS rfl _ _ _) rfl ?_;have a:=z.out;rw[h,gt,q6]at a;rw[a]at p;exact⟨⟨_,rfl⟩,.inl ⟨_,p⟩⟩
end
section
open Go.RowKit Go.Shelf
attribute [local go_sem] Oper.semAt_some
theorem BP{n:Nat}{a B:A}(h:ic a a B)(b:n<=a.heap.size):j7 n a B:=⟨h.size,λk o _ hk _=>(h.block k (jy.1 hk).1).trans hk⟩
theorem Ar(a k:Nat)(ha:a<PN)(hk:k<18446744073709551616)(w:A):
 jd hQ 76 #[N hK a,N hK k] w λe w'=>∃c:Nat,e=jb (N hK c)/\hZ (c=a^k%PN)/\ic w w w':=by
 have M:bitLen k<=64:=by
  by_cases b:k=0
  ·subst b;decide
  have h:=(bitLen_spec k).2 b
  rcases lw 64 (bitLen k)with d|d
  ·have f:2^64<=2^(bitLen k-1):=q8 G Y
   omega
  exact d
 obtain⟨n,z⟩:∃n,bitLen k=n:=⟨_,rfl⟩;rw[z]at M;have HP:=O (s8 a k n (by rw[<-z];exact(bitLen_spec k).1));have HA:=O ha;refine(qQ (n:=0)).1 ?_;refine wi func76 rfl trivial ?_ rfl;simp only[ntmps76,jI,j5,qs,qt,qu,qv,qw,qx,qy,ms,jP]
 gi_wp2_with fail
 refine⟨trivial,rfl,(callsIn_wide.2 (F8 _ _)).mono ?_⟩;rintro e w' ⟨rfl,rfl⟩
 gi_wp2_with fail
 obtain⟨d,b⟩:=J (((w.alloc (hU #[N hK a] 148)).alloc (hU #[N hK 1] 148)).alloc (hU #[N hK k] 148));have bA:jl d w.heap.size 148 (N hK a):=by rw[b];exact((Boxed.new w _ _).alloc _).alloc _
 have bC:jl d (w.heap.size+1) 148 (N hK (1:Nat)):=by
  have:=Boxed.new (w.alloc (hU #[N hK a] 148)) 148 (N hK (1:Nat));rw[jO]at this;rw[b];exact this.alloc _
 have P:jl d (w.heap.size+1+1) 148 (N hK k):=by
  have:=Boxed.new ((w.alloc (hU #[N hK a] 148)).alloc (hU #[N hK 1] 148)) 148 (N hK k);rw[jO,jO]at this;rw[b];exact this
 have bB:ic w w d:=by rw[b];exact(((js _ w).alloc (jh _) _).alloc av _).alloc (by simp;omega) _
 have bb:w.heap.size+3<=d.heap.size:=by rw[b];simp
 rw[<-b];clear b;refine nK (n:=0) (gf:=185) (lb:=#[jr (T ⟨w.heap.size+1+1,0,hF⟩)]) rfl (enters_of func185 ae rfl)
  (FB k n hk z M (w.heap.size+1+1) d P) (j6 _) (λ_=>rfl) (by rintro k rfl;exact P.lt)
  (λf Ψ W=>(jl W (w.heap.size+1) 148 (N hK (pwL a f:Nat))/\¬Ψ (w.heap.size+1))/\(jl W w.heap.size 148 (N hK a)/\¬Ψ w.heap.size)/\(ic w w W/\∀k,Ψ k->w.heap.size<=k))
  (λ_ _ _ _=>False)
  ((gH d.heap.size (w.heap.size+1) 148 (λf=>I .u64 (pwL a f:Nat))).and ((gH _ _ _ (λ_=>_)).and (k7 _ _ w (jh _) Y)))
  (λ_=>eY _ _)
  ⟨⟨bC,by omega⟩,⟨bA,by omega⟩,bB,by rintro k rfl;omega⟩
  (λx Q _ _=>Q={tmps:=#[N hK a,N hK k,jr (T ⟨w,0,hF⟩),jj,N hK 0,jr (T ⟨w.heap.size+1,0,hF⟩),.bool x,N hK k,
   .func (.func 185) #[] #[jr (T ⟨w.heap.size+1+1,0,hF⟩)],.bool x,jj,jj,jj,jj,jj,jj,jj,jj],defers:=[]}) (eY _ _)
  ?assign ?body ?done ?stop
 case assign=>
  intro l f x Ψ q K b _ B
  gi_wp2
  exact B _ _ (js _ _) b rfl
 case body=>
  rintro l f x Ψ Q q ⟨⟨g,r⟩,⟨K,R⟩,s,C⟩ rfl _ S U Vf;have b:=KY a f;have i:=uD a f x;generalize pwL a f=c at g b i;have hc:=g.cell;have bc:=g.frozen;have m:=O (wL c c b b);have V:=O i;have X:=O s;clear i b s
  gi_wp2_with fail
  refine⟨trivial,rfl,(CallsIn.inRound l (callsIn_wide.2 (m _))).mono ?_⟩;rintro e i ⟨b,rfl,D,j⟩;have E:jl i (w.heap.size+1) 148 (N hK c):=(j.block _ g.lt).trans g;have aa:jl i w.heap.size 148 (N hK a):=(j.block _ K.lt).trans K;have u:jl (i.setCell ⟨w.heap.size+1,0,hF⟩ (N hK b)) (w.heap.size+1) 148 (N hK b):=E.set _;have v:jl (i.setCell ⟨w.heap.size+1,0,hF⟩ (N hK b)) w.heap.size 148 (N hK a):=aa.other Y _;have o:j7 d.heap.size q i:=BP j U;have t:=O (o.trans ((KeepsOthers.setCell i ⟨w.heap.size+1,0,hF⟩ (N hK b)).from _));have y:=O (qz (j.mono (show w.heap.size<=q.heap.size by omega)) (p:=⟨w.heap.size+1,0,hF⟩) av (N hK b));have F:hZ (∀k,Ψ k->(i.setCell ⟨w.heap.size+1,0,hF⟩ (N hK b)).heap[k]?=q.heap[k]?):=λk hk=>by
   rw[jX _ _ _ _ (by rintro rfl;exact r hk)];exact j.block _ (S k hk)
  have RU:=E.cell;have ad:=E.frozen;clear o j m
  cases x
  ·gi_wp2
   refine⟨⟨t,y.mono (j6 _),F⟩,⟨?_,r⟩,⟨v,R⟩,X.trans y,C⟩;have e:(if false=true then c*c%PN*a%PN else c*c%PN)=b:=by rw[if_neg G,D]
   rw[V,e];exact u
  have al:b<PN:=by rw[D];exact mb _ (by rw[dX];decide)
  have UU:=O (wL b a al HA);obtain⟨A2,j⟩:=J (i.setCell ⟨w.heap.size+1,0,hF⟩ (N hK b));have au:=O j;have m:=aa.cell;clear j
  gi_wp2_with fail
  rw[<-au]at u v t y F⊢;clear RU ad m;refine⟨trivial,rfl,(CallsIn.inRound l (callsIn_wide.2 (UU _))).mono ?_⟩;rintro e m ⟨j,rfl,Pu,o⟩;have H:jl m (w.heap.size+1) 148 (N hK b):=(o.block _ u.lt).trans u;have a1:jl m w.heap.size 148 (N hK a):=(o.block _ v.lt).trans v;have a2:jl (m.setCell ⟨w.heap.size+1,0,hF⟩ (N hK j)) (w.heap.size+1) 148 (N hK j):=H.set _;have a3:jl (m.setCell ⟨w.heap.size+1,0,hF⟩ (N hK j)) w.heap.size 148 (N hK a):=a1.other Y _;have a4:d.heap.size<=A2.heap.size:=jU U t.size;have a5:=O ((t.trans (BP o a4)).trans ((KeepsOthers.setCell m ⟨w.heap.size+1,0,hF⟩ (N hK j)).from _));have Pf:=O (y.trans (qz (o.mono (show w.heap.size<=A2.heap.size by omega)) (p:=⟨w.heap.size+1,0,hF⟩) av (N hK j)));have ba:hZ (∀k,Ψ k->(m.setCell ⟨w.heap.size+1,0,hF⟩ (N hK j)).heap[k]?=q.heap[k]?):=λk hk=>by
   rw[jX _ _ _ _ (by rintro rfl;exact r hk)];exact(o.block _ (qA (S k hk) t.size)).trans (F k hk)
  have RU:=H.cell;have ad:=H.frozen;clear o UU
  gi_wp2
  refine⟨⟨a5,Pf.mono (j6 _),ba⟩,⟨?_,r⟩,⟨a3,R⟩,X.trans Pf,C⟩;have e:∀(p:Prop) [Decidable p],p->(if p then c*c%PN*a%PN else c*c%PN)=j:=λp _ h=>by rw[if_pos h,Pu,D]
  rw[V,e _ (by trivial)];exact a2
 case done=>
  rintro D xs Ψ W i rfl ⟨⟨g,r⟩,-,s,C⟩ B;rw[HP]at g;have hc:=g.cell;have b:=O s;clear s
  gi_wp2
  refine⟨by simp,.inl ⟨_,_,rfl,run_takeDeferred B,?_⟩⟩;exact⟨_,results_tmp rfl _ _ _,_,rfl,O rfl,b.trans (gZ Y)⟩
 intro D c f Ψ W _ _ h;exact h.elim
end
def QN:Nat:=2305843009213688669
def aN(n:Int):Prop:=1<=n/\n<4611686018427377339/\n.toNat^QN%PN=1
noncomputable def bL(n:Int):Int:=by classical exact if aN n then 0 else 40
theorem fq{n:Int}(h:aN n):bL n=0:=by unfold bL;rw[if_pos h]
theorem iR{n:Int}(h:¬aN n):bL n=40:=by unfold bL;rw[if_neg h]
theorem Ic(a:Nat)(b:a<PN)(w:A):
 jd hQ 76 #[N hK a,N hK 2305843009213688669] w λe w'=>∃c:Nat,e=jb (N hK c)/\hZ (c=a^QN%PN)/\ic w w w':=by
 have h:=Ar a QN b (by unfold QN;decide) w;rw[show((QN:Nat):Int)=2305843009213688669 from rfl]at h;exact h
theorem fk(n:Int)(w:A):
 jd hQ 25 #[N ih n] w λe w'=>e=jb (N ih (bL n))/\ic w w w':=by
 by_cases q:n<1
 ·have i:=ap (n<1)
  have b:=O (iR (n:=n) (λh=>by unfold aN at h;omega))
  go_enter func25,ntmps25
  go_wp2
  go_ret;exact⟨by rw[b];rfl,js _ _⟩
 have i:=ar (n<1)
 by_cases r:4611686018427377339<=n
 ·have j:=ap (4611686018427377339<=n)
  have b:=O (iR (n:=n) (λh=>by unfold aN at h;omega))
  go_enter func25,ntmps25
  go_wp2
  go_ret;exact⟨by rw[b];rfl,js _ _⟩
 have j:=ar (4611686018427377339<=n);obtain⟨m,rfl⟩:=q4 (show 0<=n by omega);have k:=O (Ic m (by rw[dX];omega));have b:hZ (m^QN%PN=1->bL m=0):=O λh=>fq ⟨by omega,by omega,by rw[qo];exact h⟩
 have l:hZ (m^QN%PN≠1->bL m=40):=O λh=>iR (λg=>h (by have:=g.2.2;rwa [qo]at this))
 go_enter func25,ntmps25
 go_wp2_with fail
 refine(k _).mono ?_;rintro e s ⟨c,rfl,f,a⟩;have g:=O a;clear a
 by_cases a:c=1
 ·have o:((c:Int)==1)=true:=by rw[a];rfl
  have p:((c:Int)!=1)=false:=by rw[a];rfl
  have d:=O a;clear a
  go_wp2
  go_ret;exact⟨by rw[b.out (by rw[<-f,d])];rfl,g⟩
 have o:((c:Int)==1)=false:=by simpa using λh=>a Y
 have p:((c:Int)!=1)=true:=by simpa using λh=>a Y
 have d:=O a;clear a
 go_wp2
 go_ret;exact⟨by rw[l.out (by rw[<-f];exact d)];rfl,g⟩
section
section
variable {P:jq} {ops:Array jf} {Q:jv->Act->A->Prop} {md:Region.Mode} {S:A->Prop}
inductive Sch where
 |done:Sch
 |take (i:Nat) (r:Sch):Sch
 |one (i:Nat) (r:Sch):Sch
 |two (i j:Nat) (x y:Sch):Sch
 |float (i:Nat) (ks:List Nat) (r:Sch):Sch
def Sch.len:Sch->Nat
 | .done=>0
 | .take _ r=>r.len+1
 | .one _ r=>r.len+1
 | .two _ _ x y=>max x.len y.len+1
 | .float _ a r=>a.length+r.len+1
def tS(ops:Array jf)(i k:Nat):Bool:=
 match ops[i]?,ops[k]? with
 |some a,T ok=>a.apart ops ok
 |_,_=>false
def tz(md:Region.Mode)(ops:Array jf)(i:Nat)(r:Array Bool->Bool):List Nat->Array Bool->Bool
 |[],a=>r a
 |k::b,a=>Region.ready md ops a==[k]&&tS ops i k&&tz md ops i r b (a.setIfInBounds k true)
def o7(md:Region.Mode)(ops:Array jf)(i:Nat)(r:Array Bool->Bool):List Nat->Array Bool->Bool
 |[],a=>Region.ready md ops a==[i]&&r (a.setIfInBounds i true)
 |k::b,a=>(Region.ready md ops a==[i,k]||Region.ready md ops a==[k,i])&&o7 md ops i r b (a.setIfInBounds k true)&&tz md ops i r (k::b) (a.setIfInBounds i true)
def fF(md:Region.Mode)(ops:Array jf):Sch->Array Bool->Bool
 | .done,a=>Region.ready md ops a==[]
 | .take i r,a=>Region.free md ops a i&&(Region.ready md ops a).contains i&&fF md ops r (a.setIfInBounds i true)
 | .one i r,a=>Region.ready md ops a==[i]&&fF md ops r (a.setIfInBounds i true)
 | .two i j x y,a=>Region.ready md ops a==[i,j]&&fF md ops x (a.setIfInBounds i true)&&fF md ops y (a.setIfInBounds j true)
 | .float i b r,a=>o7 md ops i (fF md ops r) b a
def Sch.tail(f:Nat):Sch->Bool
 | .done=>true
 | .one i r=>decide (f<=i)&&r.tail f
 |_=>false
def Sch.waits(md:Region.Mode)(ops:Array jf)(f:Nat):Sch->Bool
 | .done=>true
 | .take i r=>wD md ops f i&&r.waits md ops f
 | .one _ r=>r.waits md ops f
 | .two _ _ x y=>x.waits md ops f&&y.waits md ops f
 | .float _ _ r=>r.waits md ops f
def iq(P:jq)(ops:Array jf)(Q:jv->Act->A->Prop)(S:A->Prop)(f:Nat):Sch->Act->A->Prop
 | .done,a,w=>Q .normal a w
 | .take i r,a,w=>∃o v,ops[i]?=T o/\eP P ops S o v a/\iq P ops Q S f r (a.put o.dst v) w
 | .one i r,a,w=>jo P ops Q i (λb w'=>(f<=i/\r.tail f=true/\iq P ops Q S f r b w')\/(S w'/\(S w'->iq P ops Q S f r b w'))) a w
 | .two i j x y,a,w=>jo P ops Q i (λb w'=>(f<=i/\x.tail f=true/\iq P ops Q S f x b w')\/(S w'/\(S w'->iq P ops Q S f x b w'))) a w/\jo P ops Q j (λb w'=>(f<=j/\y.tail f=true/\iq P ops Q S f y b w')\/(S w'/\(S w'->iq P ops Q S f y b w'))) a w
 | .float i e r,a,w=>∃(o:jf) (c:Nat->Act->A->Option hH->Prop),ops[i]?=T o/\c 0 a w hF/\(∀j a w d,c j a w d->S w)/\
  (∀(j k:Nat),e[j]?=T k->∀a w d,c j a w d->jo P ops Q k (λb w'=>c (j+1) b w' d) a w)/\
  (∀j,j<=e.length->∀a w,c j a w hF->jo P ops Q i (λb w'=>∃v,b=a.put o.dst v/\c j a w' (T v)) a w)/\
  (∀a w v,c e.length a w (T v)->iq P ops Q S f r (a.put o.dst v) w)
def dC(P:jq)(ops:Array jf)(Q:jv->Act->A->Prop)(S:A->Prop):Sch->Act->A->Prop
 | .done,a,w=>Q .normal a w
 | .take i r,a,w=>∃o v,ops[i]?=T o/\eP P ops S o v a/\dC P ops Q S r (a.put o.dst v) w
 | .one i r,a,w=>jo P ops Q i (λb w'=>S w'/\(S w'->dC P ops Q S r b w')) a w
 | .two i j x y,a,w=>jo P ops Q i (λb w'=>S w'/\(S w'->dC P ops Q S x b w')) a w/\jo P ops Q j (λb w'=>S w'/\(S w'->dC P ops Q S y b w')) a w
 | .float i e r,a,w=>∃(o:jf) (c:Nat->Act->A->Option hH->Prop),ops[i]?=T o/\c 0 a w hF/\(∀j a w d,c j a w d->S w)/\
  (∀(j k:Nat),e[j]?=T k->∀a w d,c j a w d->jo P ops Q k (λb w'=>c (j+1) b w' d) a w)/\
  (∀j,j<=e.length->∀a w,c j a w hF->jo P ops Q i (λb w'=>∃v,b=a.put o.dst v/\c j a w' (T v)) a w)/\
  (∀a w v,c e.length a w (T v)->dC P ops Q S r (a.put o.dst v) w)
theorem dC.toF{f:Nat}:∀(t:Sch) (a:Act) (w:A),dC P ops Q S t a w->iq P ops Q S f t a w
 | .done,_,_,h=>h
 | .take i r,a,w,⟨o,v,c,d,e⟩=>⟨o,v,c,d,toF r _ _ e⟩
 | .one i r,a,w,h=>jC (λg w' h=>.inr ⟨h.1,λb=>toF r _ _ (h.2 b)⟩) h
 | .two i j x y,a,w,h=>⟨jC (λg w' h=>.inr ⟨h.1,λb=>toF x _ _ (h.2 b)⟩) h.1,jC (λg w' h=>.inr ⟨h.1,λb=>toF y _ _ (h.2 b)⟩) h.2⟩
 | .float i m r,a,w,⟨o,b,c,d,e,g,k,l⟩=>⟨o,b,c,d,e,g,k,λa w v h=>toF r _ _ (l a w v h)⟩
theorem I8{j:Nat}{i g:jf}{v:hH}(s:ops[j]?=T g)(t:i.apart ops g=true)(p:∀cs b,g.op≠.select cs b)
 (q:∀c a e w,Q (.panic c) a w->Q (.panic c) e w) {K:Act->A->Prop} {a:Act} {w:A} (h:jo P ops Q j K a w):
 jo P ops Q j (λk w'=>∃e,k=e.put i.dst v/\K e w') (a.put i.dst v) w:=by
 obtain⟨m,k,z⟩:=Oper.apart_spec t;unfold jo at*;simp only[s]at*;rw[wanted_put g a i.dst v m]
 split
 ·rename_i o
  simp only[o,if_true]at h
  rcases h with h|⟨u,y⟩
  case inr=>exact .inr ⟨by unfold Oper.asks at*;rw[execOp_put g p a i.dst v m];exact u,y⟩
  refine .inl ?_;unfold Oper.wp at*;rw[execOp_put g p a i.dst v m];generalize(jE a.eval g).run P w=r at*
  cases r with
  |ok n w'=>
   cases n<;>simp only[Oper.upon]at h⊢
   case value l=>exact⟨_,Act.put_comm a v l k,h⟩
   case skip=>exact⟨_,Act.put_comm a v jj k,h⟩
   case defer d=>
    exact⟨_,(congrArg (λb=>Act.put b g.dst jj) (Act.put_defers a i.dst v d)).trans (Act.put_comm _ v jj k),h⟩
   case enter f args=>
    refine Calls.mono h λe b he=>?_
    cases e with
    |returned l=>exact⟨_,Act.put_comm a v l k,he⟩
    |panicked c=>exact q _ _ _ _ he
    |outgrown=>exact he
   case row row args=>exact Rows.mono h λl b he=>⟨_,Act.put_comm a v l k,he⟩
  |halt x w'=>
   cases x<;>simp only[Oper.upon]at h⊢
   case panic l=>exact q _ _ _ _ h
 rename_i o;simp only[o]at h;exact⟨_,Act.put_comm a v jj k,h⟩
theorem Kk{i k:Nat}{a:jf}(b:ops[i]?=T a)(h:tS ops i k=true):∃ok,ops[k]?=T ok/\a.apart ops ok=true:=by
 unfold tS at h;rw[b]at h
 cases hk:ops[k]? with
 |none=>rw[hk]at h;cases h
 |some ok=>rw[hk]at h;exact⟨ok,rfl,h⟩
theorem Aw(t:Region.noSelect ops=true)(u:∀c a g w,Q (.panic c) a w->Q (.panic c) g w){f i:Nat}{o:jf}(y:ops[i]?=T o){r:Array Bool->Bool}{n z:Nat}{l:Nat->Act->A->Option hH->Prop}
 (B:∀j a w d,l j a w d->S w) (C:∀fuel c a w v,z<=fuel->r c=true->l n a w (T v)->fO P md ops Q S f fuel c (a.put o.dst v) w):
 ∀(e:List Nat) (j fuel:Nat) (c:Array Bool) (a:Act) (w:A) (v:hH),e.length+z<=fuel->tz md ops i r e c=true->j+e.length=n->
  (∀(m k:Nat),e[m]?=T k->∀a w d,l (j+m) a w d->jo P ops Q k (λg w'=>l (j+m+1) g w' d) a w)->l j a w (T v)->fO P md ops Q S f fuel c (a.put o.dst v) w
 |[],j,fuel,c,a,w,v,p,hk,q,_,s=>by
  obtain rfl:j=n:=by simpa using q
  exact C _ _ _ _ _ (by simpa using p) hk s
 |k::e,j,fuel,c,a,w,v,p,hk,q,D,s=>by
  cases fuel with
  |zero=>simp at p
  |succ fuel=>
   simp only[tz,jA,beq_iff_eq]at hk;obtain⟨ok,E,H⟩:=Kk y hk.1.2;refine λ_=>⟨λK=>(by rw[K]at hk;simp at hk),λx F=>?_⟩
   obtain rfl:x=k:=by rw[hk.1.1]at F;simpa using F
   refine jC (λb w' M=>?_) (I8 (v:=v) E H (λcs b=>Region.noSelect_spec t x ok cs b E) u (D 0 x av a w (T v) s));obtain⟨g,rfl,b⟩:=M;refine⟨.inr (B _ _ _ _ b),Aw t u y B C e (j+1) fuel _ g w' v (by simp at p;omega) hk.2 (by simp at q;omega) (λm k R a w d h=>?_) b⟩;have:=D (m+1) k (by simpa using R) a w d (by rw[show j+(m+1)=j+1+m by omega];exact h);rw[show j+(m+1)=j+1+m by omega]at this;exact this
theorem yT(E:Region.noSelect ops=true)(F:∀c a d w,Q (.panic c) a w->Q (.panic c) d w){f i:Nat}{o:jf}(H:ops[i]?=T o){r:Array Bool->Bool}{n K:Nat}{c:Nat->Act->A->Option hH->Prop}
 (s:∀j a w l,c j a w l->S w) (y:∀fuel e a w v,K<=fuel->r e=true->c n a w (T v)->fO P md ops Q S f fuel e (a.put o.dst v) w)
 (z:∀j,j<=n->∀a w,c j a w hF->jo P ops Q i (λd w'=>∃v,d=a.put o.dst v/\c j a w' (T v)) a w):
 ∀(g:List Nat) (j fuel:Nat) (e:Array Bool) (a:Act) (w:A),g.length+K+1<=fuel->o7 md ops i r g e=true->j+g.length=n->
  (∀(m k:Nat),g[m]?=T k->∀a w l,c (j+m) a w l->jo P ops Q k (λd w'=>c (j+m+1) d w' l) a w)->c j a w hF->fO P md ops Q S f fuel e a w
 |[],j,fuel,e,a,w,p,hk,t,_,u=>by
  obtain rfl:j=n:=by simpa using t
  cases fuel with
  |zero=>simp at p
  |succ fuel=>
   simp only[o7,jA,beq_iff_eq]at hk;refine λ_=>⟨λB=>(by rw[B]at hk;simp at hk),λx b=>?_⟩
   obtain rfl:x=i:=by rw[hk.1]at b;simpa using b
   refine jC (λM w' q=>?_) (z j (jh _) a w u);obtain⟨v,rfl,h⟩:=q;exact⟨.inr (s _ _ _ _ h),y _ _ _ _ _ (by simp at p;omega) hk.2 h⟩
 |k::g,j,fuel,e,a,w,p,hk,t,C,u=>by
  cases fuel with
  |zero=>simp at p
  |succ fuel=>
   simp only[o7,jA,qj,beq_iff_eq]at hk;refine λ_=>⟨λB=>(by rw[B]at hk;simp at hk),λx b=>?_⟩
   have R:x=i\/x=k:=by
    rcases hk.1.1 with D|D
    ·rw[D]at b;simpa using b
    rw[D]at b;simp at b;exact b.symm
   rcases R with rfl|rfl
   ·refine jC (λM w' q=>?_) (z j Y a w u)
    obtain⟨v,rfl,h⟩:=q;exact⟨.inr (s _ _ _ _ h),Aw E F H s y (k::g) j fuel _ a w' v (by simp at p⊢;omega) hk.2 t C h⟩
   refine jC (λd w' q=>?_) (C 0 x av a w hF u);refine⟨.inr (s _ _ _ _ q),yT E F H s y z g (j+1) fuel _ d w' (by simp at p;omega) hk.1.2 (by simp at t;omega) (λm k v a w l h=>?_) q⟩;have:=C (m+1) k (by simpa using v) a w l (by rw[show j+(m+1)=j+1+m by omega];exact h);rw[show j+(m+1)=j+1+m by omega]at this;exact this
theorem iC{f:Nat}(p:Region.noSelect ops=true)(q:∀c a z w,Q (.panic c) a w->Q (.panic c) z w):
 ∀(t:Sch) (fuel:Nat) (l:Array Bool) (a:Act) (w:A),t.len<=fuel->fF md ops t l=true->t.waits md ops f=true->(t.tail f=true\/S w)->iq P ops Q S f t a w->fO P md ops Q S f fuel l a w
 | .done,fuel,l,a,w,_,hk,_,_,h=>by
  have b:Region.ready md ops l=[]:=by simpa [fF]using hk
  cases fuel with
  |zero=>exact⟨b,h⟩
  |succ n=>exact λ_=>⟨λ_=>h,λi d=>by rw[b]at d;cases d⟩
 | .take i r,fuel,l,a,w,e,hk,g,s,⟨o,v,B,D,h⟩=>by
  have s:S w:=s.resolve_left (by simp[Sch.tail]);simp only[Sch.waits,jA]at g
  cases fuel with
  |zero=>simp[Sch.len]at e
  |succ n=>
   simp only[fF,jA]at hk;refine sW B (Region.noSelect_spec p) (λc a d v w=>q c _ a w) n l a w (Region.free_spec B hk.1.1) (BI g.1) (by simpa using hk.1.2) D s (iC p q r n _ _ _ (by simp[Sch.len]at e;omega) hk.2 g.2 (.inr s) h)
 | .one i r,fuel,l,a,w,e,hk,g,s,h=>by
  cases fuel with
  |zero=>simp[Sch.len]at e
  |succ n=>
   simp only[fF,jA,beq_iff_eq]at hk;refine λ_=>⟨λC=>(by rw[C]at hk;simp at hk),λj c=>?_⟩
   obtain rfl:j=i:=by rw[hk.1]at c;simpa using c
   refine jC (λz w' b=>?_) h
   rcases b with⟨d,m,u⟩|b
   ·exact⟨.inl d,iC p q r n _ _ _ (by simp[Sch.len]at e;omega) hk.2 g (.inl m) u⟩
   exact⟨.inr b.1,iC p q r n _ _ _ (by simp[Sch.len]at e;omega) hk.2 g (.inr b.1) (b.2 b.1)⟩
 | .two i k x y,fuel,l,a,w,e,hk,g,s,h=>by
  simp only[Sch.waits,jA]at g
  cases fuel with
  |zero=>simp[Sch.len]at e
  |succ n=>
   simp only[fF,jA,beq_iff_eq]at hk;refine λ_=>⟨λC=>(by rw[C]at hk;simp at hk),λj c=>?_⟩
   rw[hk.1.1]at c;have E:j=i\/j=k:=by simpa using c
   rcases E with rfl|rfl
   ·refine jC (λz w' b=>?_) h.1
    rcases b with⟨d,m,u⟩|b
    ·exact⟨.inl d,iC p q x n _ _ _ (by simp[Sch.len]at e;omega) hk.1.2 g.1 (.inl m) u⟩
    exact⟨.inr b.1,iC p q x n _ _ _ (by simp[Sch.len]at e;omega) hk.1.2 g.1 (.inr b.1) (b.2 b.1)⟩
   refine jC (λz w' b=>?_) h.2
   rcases b with⟨d,m,u⟩|b
   ·exact⟨.inl d,iC p q y n _ _ _ (by simp[Sch.len]at e;omega) hk.2 g.2 (.inl m) u⟩
   exact⟨.inr b.1,iC p q y n _ _ _ (by simp[Sch.len]at e;omega) hk.2 g.2 (.inr b.1) (b.2 b.1)⟩
 | .float i c r,fuel,l,a,w,e,hk,g,s,⟨o,H,B,b,d,j,u,z⟩=>by
  have C:c.length+r.len+1<=fuel:=e;exact yT (n:=c.length) p q B d (λfuel l a w v e hk b=>iC p q r fuel l _ _ e hk g (.inr (d _ _ _ _ b)) (z _ _ _ b)) u c 0 fuel l a w C hk Y (λm k E a w F h=>by rw[jL]at h⊢;exact j m k E a w F h) b
theorem EZ{b:Nat}{a:Act}{w:A}(S:A->Prop)(f:Nat)(t:Sch)(d:P.follows .mixedOrders=true)(e:Region.noSelect ops=true)
 (hk:fF .any ops t (jZ ops.size false)=true) (g:t.waits .any ops f=true) (i:t.len<=ops.size) (j:∀c a h w,Q (.panic c) a w->Q (.panic c) h w)
 (c:S w.drew) (h:iq P ops Q S f t a w.drew):(Code.region b ops true).wp P Q a w:=
 wp_region_any d (ra _ _ _ _ (Closed.zero _) (iC e j t _ _ _ _ i hk g (.inr c) h))
theorem Sch.waits_size:∀t:Sch,t.waits md ops ops.size=true
 | .done=>rfl
 | .take i r=>by
  simp only[Sch.waits,jA];refine⟨qX.2 λj a=>?_,waits_size r⟩;simp[qY.1 a]
 | .one _ r=>waits_size r
 | .two _ _ x y=>by simp only[Sch.waits,jA];exact⟨waits_size x,waits_size y⟩
 | .float _ _ r=>waits_size r
theorem EQ{b:Nat}{a:Act}{w:A}(S:A->Prop)(t:Sch)(d:P.follows .mixedOrders=true)(e:Region.noSelect ops=true)
 (hk:fF .any ops t (jZ ops.size false)=true) (f:t.len<=ops.size) (g:∀c a h w,Q (.panic c) a w->Q (.panic c) h w)
 (c:S w.drew) (h:dC P ops Q S t a w.drew):(Code.region b ops true).wp P Q a w:=
 EZ S ops.size t d e hk (Sch.waits_size t) f g c (dC.toF t _ _ h)
theorem No{i:Nat}{o:jf}{v:hH}{r:Sch}{a:Act}{w:A}(b:ops[i]?=T o)(c:Region.wanted o (jN ops a.tmps)=true)
 (d:∀w,S w->(jE a.eval o).run P w=.ok (.value v) w) (h:dC P ops Q S r (a.put o.dst v) w):dC P ops Q S (.take i r) a w:=
 ⟨o,v,b,.inl ⟨c,λw e=>.inl (d w e)⟩,h⟩
theorem Iq{i:Nat}{o:jf}{r:Sch}{a:Act}{w:A}(b:ops[i]?=T o)(c:Region.wanted o (jN ops a.tmps)=false)
 (h:dC P ops Q S r (a.put o.dst jj) w):dC P ops Q S (.take i r) a w:=
 ⟨o,jj,b,.inr ⟨c,rfl⟩,h⟩
theorem IH{i:Nat}{o:jf}{r:Sch}{a:Act}{w:A}(d:ops[i]?=T o)
 (h:∀b:Act->A->Prop,Shut (∀a w,S w->(S w->dC P ops Q S r a w)->b a w)->if Region.wanted o (jN ops a.tmps)=true then Oper.wp P o a w b Q else b (a.put o.dst jj) w):
 dC P ops Q S (.one i r) a w:=
 wpOp_step d λb e=>h b (λa w c f=>e a w ⟨c,λ_=>f c⟩)
theorem NH{i:Nat}{o:jf}{v:hH}{r:Sch}{a:Act}{w:A}{f:FuncId}{args:Array hH}(b:ops[i]?=T o)(c:Region.wanted o (jN ops a.tmps)=true)
 (he:∀w,(jE a.eval o).run P w=.ok (.enter f args) w) (d:∀w,S w->jd P f args w λe w'=>e=jb v/\w'=w) (h:dC P ops Q S r (a.put o.dst v) w):dC P ops Q S (.take i r) a w:=
 ⟨o,v,b,.inl ⟨c,λw e=>.inr ⟨f,args,he w,d w e⟩⟩,h⟩
theorem N2{i j:Nat}{x y:Sch}{a:Act}{w:A}(b:dC P ops Q S (.one i x) a w)(c:dC P ops Q S (.one j y) a w):dC P ops Q S (.two i j x y) a w:=
 ⟨b,c⟩
end
end
section
def bW(w:A)(v:hH)(sz n:Nat)(xs:List hH):Prop:=
 xs.length=n*sz/\∃(p:Option jt) (c:Nat),v=jc p n c/\n<=c/\(p=hF->c=0)/\
  (0<n->∃g o,p=T ⟨g,o,hF⟩/\∀(j:Nat) a,xs[j]?=T a->w.cell? ⟨g,o+j,hF⟩=T a)
theorem eN{w:A}{a:jt}{b:hH}(h:w.cell? a=T b):a.block<w.heap.size:=by
 unfold jJ at h
 cases hb:w.heap[a.block]? with
 |none=>simp[hb]at h
 |some x=>exact(jy.1 hb).1
theorem bW.below{w w':A}{v:hH}{sz n:Nat}{xs:List hH}(h:bW w v sz n xs)(f:ic w w w'):bW w' v sz n xs:=by
 obtain⟨i,p,c,rfl,k,l,m⟩:=h;refine⟨i,p,c,rfl,k,l,λq=>?_⟩;obtain⟨g,o,e,a⟩:=m q;exact⟨g,o,e,λj b d=>by rw[f.cell (p:=⟨g,o+j,hF⟩) (eN (a j b d))];exact a j b d⟩
theorem bW.of_own{w:A}{B sz n:Nat}{e:je}{v:hH}{xs:List hH}(h:w.ownsRow B e sz v n xs):bW w v sz n xs:=by
 refine⟨h.1,?_⟩
 rcases h.2 with⟨rfl,b⟩|⟨g,c,k,rfl,l,d,f,m,o,i⟩
 ·have j:n=0:=by
   first
    |exact b
    |(have a:=h.1;rw[b]at a;simp at a;omega)
  subst j;exact⟨hF,0,rfl,jh _,λ_=>rfl,λa=>by omega⟩
 refine⟨T ⟨g,0,hF⟩,c,rfl,f,λe=>by simp at e,λ_=>⟨g,0,rfl,λj p a=>?_⟩⟩;have q:j<xs.length:=(jQ.1 a).1;rw[<-i]at a;rw[List.getElem?_take]at a
 split at a
 ·simp only[jJ,d]
  simpa using a
 cases a
theorem AK(g o j:Nat):(⟨g,o,hF⟩:jt).add j=⟨g,o+j,hF⟩:=by unfold Addr.add;split<;>simp_all
section
variable {P:jq}
theorem Me(w:A)(base:Nat)(t f e:je)(i:TypeInfo)(z:hH)(size h:Nat)(l:P.underlying t=T (.slice e))(q:P.info? e=T i)(x:i.zero=T z)
 (y:i.size=size) (B:i.bytes=h) (C:z.cells.size=size) (D:0<size)
 (v:hH) (n:Nat) (xs:List hH) (k:w.ownsRow base e size v n xs) (a:hH) (m:Nat) (b:List hH) (E:bW w a size m b) (F:∀a∈b,a.oneCell'=true)
 (H:n+m<=jF) (K:(n+m)*h<=140737488355328) (M:base<=w.heap.size):
 ∃d w',(Builtin.append_ #[t,t] f #[v,a]).run P w=.ok d w'/\w'.ownsRow base e size d (n+m) (xs++b)/\w.grownBy w' v.ownBlock:=by
 obtain⟨r,p,c,rfl,X,Q,R⟩:=E
 rcases p with _|s
 ·have g:=Q rfl
  subst g;obtain rfl:m=0:=Y;obtain rfl:b=[]:=qB Y;exact⟨v,w,run_append_owned_none (P:=P) (w:=w) base t f e i size l q v n xs k,by simpa using k,oo.refl _ _⟩
 have S:∀(j:Nat) a,b[j]?=T a->w.cell? (s.add j)=T a:=?_
 ·obtain⟨d,w',g,o,u,_⟩:=run_append_own (P:=P) w base t f e i z size h l q x y B C D v n xs k s m c b r S F H K M
  exact⟨d,w',g,o,u⟩
 intro j a u;have U:=(jQ.1 u).1;have V:0<m:=by
  rcases j4 m with g|g
  ·rw[r,g]at U;omega
  exact g
 obtain⟨g,o,e,W⟩:=R V;obtain rfl:=qC.inj e;rw[AK];exact W j a u
theorem Ev{w:A}{o:jf}{a:Act}{K:Act->A->Prop}{g:jv->Act->A->Prop}(s x:j8)(t:je)
 (j:o.op=.call {callee:=.builtin .append,args:=#[s,x],argTypes:=#[t,t]})
 (base:Nat) (e:je) (i:TypeInfo) (z:hH) (size f:Nat) (k:P.underlying t=T (.slice e)) (l:P.info? e=T i) (p:i.zero=T z)
 (q:i.size=size) (r:i.bytes=f) (u:z.cells.size=size) (y:0<size)
 (v:hH) (n:Nat) (xs:List hH) (B:a.eval s=v) (C:w.ownsRow base e size v n xs) (b:hH) (m:Nat) (c:List hH) (D:a.eval x=b) (E:bW w b size m c) (F:∀b∈c,b.oneCell'=true)
 (H:n+m<=jF) (M:(n+m)*f<=140737488355328) (Q:base<=w.heap.size)
 (h:∀d w',w'.ownsRow base e size d (n+m) (xs++c)->w.grownBy w' v.ownBlock->K (a.put o.dst d) w'):o.wp P a w K g:=by
 obtain⟨d,w',R,S,U⟩:=Me (P:=P) w base t o.type e i z size f k l p q r u y v n xs C b m c E F H M Q;unfold Oper.wp jE;simp only[j,resolve,invoke,builtin,Sem.run_bind,Sem.run_pure,Result.andThen_ok,qD,ow,qE,B,D,R];exact h d w' S U
theorem IU(w:A)(base:Nat)(t f e:je)(i:TypeInfo)(z:hH)(size h:Nat)(l:P.underlying t=T (.slice e))(q:P.info? e=T i)(x:i.zero=T z)
 (y:i.size=size) (B:i.bytes=h) (C:z.cells.size=size) (D:0<size)
 (v:hH) (n:Nat) (xs:List hH) (k:w.ownsRow base e size v n xs) (a:hH) (m:Nat) (b:List hH) (E:bW w a size m b) (F:∀a∈b,a.oneCell'=true)
 (H:n+m<=jF) (K:(n+m)*h<=140737488355328) (M:base<=w.heap.size):
 ∃d w',(Builtin.append_ #[t,t] f #[v,a]).run P w=.ok d w'/\w'.ownsRow base e size d (n+m) (xs++b)/\w.grownBy w' v.ownBlock/\(d.ownBlock=v.ownBlock\/d.ownBlock=T w.heap.size):=by
 obtain⟨r,p,c,rfl,X,Q,R⟩:=E
 rcases p with _|s
 ·have g:=Q rfl
  subst g;obtain rfl:m=0:=Y;obtain rfl:b=[]:=qB Y;exact⟨v,w,run_append_owned_none (P:=P) (w:=w) base t f e i size l q v n xs k,by simpa using k,oo.refl _ _,.inl rfl⟩
 have S:∀(j:Nat) a,b[j]?=T a->w.cell? (s.add j)=T a:=?_
 ·obtain⟨d,w',g,o,u,_,U⟩:=run_append_own_at (P:=P) w base t f e i z size h l q x y B C D v n xs k s m c b r S F H K M
  exact⟨d,w',g,o,u,U⟩
 intro j a u;have U:=(jQ.1 u).1;have V:0<m:=by
  rcases j4 m with g|g
  ·rw[r,g]at U;omega
  exact g
 obtain⟨g,o,e,W⟩:=R V;obtain rfl:=qC.inj e;rw[AK];exact W j a u
theorem lN{w:A}{o:jf}{a:Act}{K:Act->A->Prop}{g:jv->Act->A->Prop}(s x:j8)(t:je)
 (j:o.op=.call {callee:=.builtin .append,args:=#[s,x],argTypes:=#[t,t]})
 (base:Nat) (e:je) (i:TypeInfo) (z:hH) (size f:Nat) (k:P.underlying t=T (.slice e)) (l:P.info? e=T i) (p:i.zero=T z)
 (q:i.size=size) (r:i.bytes=f) (u:z.cells.size=size) (y:0<size)
 (v:hH) (n:Nat) (xs:List hH) (B:a.eval s=v) (C:w.ownsRow base e size v n xs) (c:hH) (m:Nat) (d:List hH) (D:a.eval x=c) (E:bW w c size m d) (F:∀c∈d,c.oneCell'=true)
 (H:n+m<=jF) (M:(n+m)*f<=140737488355328) (Q:base<=w.heap.size)
 (h:∀b w',w'.ownsRow base e size b (n+m) (xs++d)->w.grownBy w' v.ownBlock->(b.ownBlock=v.ownBlock\/b.ownBlock=T w.heap.size)->K (a.put o.dst b) w'):o.wp P a w K g:=by
 obtain⟨b,w',R,S,U,V⟩:=IU (P:=P) w base t o.type e i z size f k l p q r u y v n xs C c m d E F H M Q;unfold Oper.wp jE;simp only[j,resolve,invoke,builtin,Sem.run_bind,Sem.run_pure,Result.andThen_ok,qD,ow,qE,B,D,R];exact h b w' S U V
end
end
section
section
variable {P:jq} {ops:Array jf} {Q:jv->Act->A->Prop} {md:Region.Mode} {S:A->Prop}
theorem Od{o:jf}{a:Act}{w w':A}{K:Act->A->Prop}{v:hH}(h:(jE a.eval o).run P w=.ok (.value v) w')(b:K (a.put o.dst v) w'):o.wp P a w K Q:=by
 unfold Oper.wp;rw[h];exact b
theorem fu{o:jf}{a:Act}{w:A}{K:Act->A->Prop}(t:je)(c:o.op=.alloc t)(b:Array hH)
 (d:∀w,(Instr.alloc t true (ju #[])).run P w=.ok (jr (T ⟨w,0,hF⟩)) (w.alloc (hU b t))) (h:K (a.put o.dst (jr (T ⟨w,0,hF⟩))) (w.alloc (hU b t))):o.wp P a w K Q:=by
 refine Od (v:=jr (T ⟨w,0,hF⟩)) (w':=w.alloc (hU b t)) ?_ h;unfold jE;simp only[c,Sem.run_bind,d,Result.andThen_ok,Sem.run_pure]
end
end
theorem D9(a b:Nat)(c:a<4294967296)(d:b<4294967296):bits .or .u32 (a:Int) (b:Int)=((a|||b:Nat):Int):=
 (bits_nat .u32 32 G (λn e f=>IntWalk.u32_in n Y) a b Y Y).2
theorem Kd(a b:Nat)(c:a<4294967296)(d:b<4294967296):bits .and .u32 (a:Int) (b:Int)=((a&&&b:Nat):Int):=
 (bits_nat .u32 32 G (λn e f=>IntWalk.u32_in n Y) a b Y Y).1
theorem F4(a b:Nat)(c:a<4294967296)(d:b<4294967296):bits .xor .u32 (a:Int) (b:Int)=((a^^^b:Nat):Int):=by
 have e:a%2^32=a:=jD c;have f:b%2^32=b:=jD d;have g:a^^^b<2^32:=Nat.xor_lt_two_pow c d;show ii.wrap ((q9 32 (a:Int)^^^q9 32 (b:Int)).toNat:Int)=_;simp only[BitVec.ofInt_natCast,ri,mz,e,f];exact IntWalk.u32_in _ Y
theorem bor(x y:BitVec 32):bits .or .u32 (x.toNat:Int) (y.toNat:Int)=((x|||y).toNat:Int):=by rw[D9 _ _ x.isLt y.isLt,rn]
theorem Bh(x y:BitVec 32):bits .and .u32 (x.toNat:Int) (y.toNat:Int)=((x&&&y).toNat:Int):=by rw[Kd _ _ x.isLt y.isLt,BitVec.toNat_and]
theorem fZ(x y:BitVec 32):bits .xor .u32 (x.toNat:Int) (y.toNat:Int)=((x^^^y).toNat:Int):=by rw[F4 _ _ x.isLt y.isLt,ri]
theorem iA(x y:BitVec 32):((x.toNat:Int)+(y.toNat:Int))%4294967296=((x+y).toNat:Int):=by rw[rv];simp
theorem vQ(x:BitVec 32)(n d:Nat)(a:d=2^n):(x.toNat:Int)/(d:Int)=((x>>>n).toNat:Int):=by rw[qF,qG,a];simp
theorem vS(x:BitVec 8)(n d:Nat)(a:n<=24)(b:d=2^n):(x.toNat:Int)*(d:Int)=((x.setWidth 32<<<n).toNat:Int):=by
 have g:=x.isLt;have c:2^n<=2^24:=q8 G a;have e:x.toNat*2^n<2^32:=by
  have:x.toNat*2^n<=255*2^24:=Nat.mul_le_mul Y c;omega
 have f:x.toNat%2^32=x.toNat:=jD Y;rw[qH,nn,o4,f,jD e,b];simp
theorem Be(x:BitVec 8):(x.toNat:Int)=((x.setWidth 32).toNat:Int):=by
 have a:=x.isLt;rw[nn,jD Y]
theorem fT(x:BitVec 32)(k m d:Nat)(a:k<32)(b:m=2^k)(c:d=2^(32-k)):
 bits .or .u32 ((x.toNat:Int)*(m:Int)%4294967296) ((x.toNat:Int)/(d:Int))=((x.rotateLeft k).toNat:Int):=by
 have e:((x.toNat:Int)*(m:Int)%4294967296)=((x.toNat*m%4294967296:Nat):Int):=by simp
 have f:((x.toNat:Int)/(d:Int))=((x.toNat/d:Nat):Int):=by simp
 have g:x.toNat/d<4294967296:=r3 (q5 _ _) (a8 x.isLt);rw[e,f,D9 _ _ (mb _ G) g,r4,jD a,rn,qH,qF,o4,qG,<-b,<-c]
theorem iI(x:BitVec 32)(k:Nat)(h:0<k)(hk:k<32):x.rotateLeft (32-k)=x.rotateRight k:=by
 rw[r4,BitVec.rotateRight_def,jD hk,jD (by omega:32-k<32),show 32-(32-k)=k by omega,BitVec.or_comm]
theorem eM{a b:Int}(h:a=b):Ending.returned (N ja a)=jb (N ja b):=by rw[h]
theorem N7(x:BitVec 32)(w:A):
 jd hQ 218 #[N ja x.toNat,N ih 16] w λe w'=>e=jb (N ja (x.rotateLeft 16).toNat)/\w=w':=by
 have a:bits .and .u64 16 31=16:=by decide
 go_enter jG,jH
 go_wp2
 go_ret;exact⟨eM (fT x 16 65536 65536 G G G),rfl⟩
theorem Ns(x:BitVec 32)(w:A):
 jd hQ 218 #[N ja x.toNat,N ih 12] w λe w'=>e=jb (N ja (x.rotateLeft 12).toNat)/\w=w':=by
 have a:bits .and .u64 12 31=12:=by decide
 go_enter jG,jH
 go_wp2
 go_ret;exact⟨eM (fT x 12 4096 1048576 G G G),rfl⟩
theorem Fe(x:BitVec 32)(w:A):
 jd hQ 218 #[N ja x.toNat,N ih 8] w λe w'=>e=jb (N ja (x.rotateLeft 8).toNat)/\w=w':=by
 have a:bits .and .u64 8 31=8:=by decide
 go_enter jG,jH
 go_wp2
 go_ret;exact⟨eM (fT x 8 256 16777216 G G G),rfl⟩
theorem Fq(x:BitVec 32)(w:A):
 jd hQ 218 #[N ja x.toNat,N ih 7] w λe w'=>e=jb (N ja (x.rotateLeft 7).toNat)/\w=w':=by
 have a:bits .and .u64 7 31=7:=by decide
 go_enter jG,jH
 go_wp2
 go_ret;exact⟨eM (fT x 7 128 33554432 G G G),rfl⟩
theorem LX(x:BitVec 32)(w:A):
 jd hQ 218 #[N ja x.toNat,N ih (-7)] w λe w'=>e=jb (N ja (x.rotateRight 7).toNat)/\w=w':=by
 rw[<-iI x 7 G G];have a:bits .and .u64 (jm.wrap (-7)) 31=25:=by decide
 go_enter jG,jH
 go_wp2
 go_ret;exact⟨eM (fT x 25 33554432 128 G G G),rfl⟩
theorem Kg(x:BitVec 32)(w:A):
 jd hQ 218 #[N ja x.toNat,N ih (-18)] w λe w'=>e=jb (N ja (x.rotateRight 18).toNat)/\w=w':=by
 rw[<-iI x 18 G G];have a:bits .and .u64 (jm.wrap (-18)) 31=14:=by decide
 go_enter jG,jH
 go_wp2
 go_ret;exact⟨eM (fT x 14 16384 262144 G G G),rfl⟩
theorem Ll(x:BitVec 32)(w:A):
 jd hQ 218 #[N ja x.toNat,N ih (-17)] w λe w'=>e=jb (N ja (x.rotateRight 17).toNat)/\w=w':=by
 rw[<-iI x 17 G G];have a:bits .and .u64 (jm.wrap (-17)) 31=15:=by decide
 go_enter jG,jH
 go_wp2
 go_ret;exact⟨eM (fT x 15 32768 131072 G G G),rfl⟩
theorem LU(x:BitVec 32)(w:A):
 jd hQ 218 #[N ja x.toNat,N ih (-19)] w λe w'=>e=jb (N ja (x.rotateRight 19).toNat)/\w=w':=by
 rw[<-iI x 19 G G];have a:bits .and .u64 (jm.wrap (-19)) 31=13:=by decide
 go_enter jG,jH
 go_wp2
 go_ret;exact⟨eM (fT x 13 8192 524288 G G G),rfl⟩
theorem L1(x:BitVec 32)(w:A):
 jd hQ 218 #[N ja x.toNat,N ih (-6)] w λe w'=>e=jb (N ja (x.rotateRight 6).toNat)/\w=w':=by
 rw[<-iI x 6 G G];have a:bits .and .u64 (jm.wrap (-6)) 31=26:=by decide
 go_enter jG,jH
 go_wp2
 go_ret;exact⟨eM (fT x 26 67108864 64 G G G),rfl⟩
theorem Lz(x:BitVec 32)(w:A):
 jd hQ 218 #[N ja x.toNat,N ih (-11)] w λe w'=>e=jb (N ja (x.rotateRight 11).toNat)/\w=w':=by
 rw[<-iI x 11 G G];have a:bits .and .u64 (jm.wrap (-11)) 31=21:=by decide
 go_enter jG,jH
 go_wp2
 go_ret;exact⟨eM (fT x 21 2097152 2048 G G G),rfl⟩
theorem Oa(x:BitVec 32)(w:A):
 jd hQ 218 #[N ja x.toNat,N ih (-25)] w λe w'=>e=jb (N ja (x.rotateRight 25).toNat)/\w=w':=by
 rw[<-iI x 25 G G];have a:bits .and .u64 (jm.wrap (-25)) 31=7:=by decide
 go_enter jG,jH
 go_wp2
 go_ret;exact⟨eM (fT x 7 128 33554432 G G G),rfl⟩
theorem Fh(x:BitVec 32)(w:A):
 jd hQ 218 #[N ja x.toNat,N ih (-2)] w λe w'=>e=jb (N ja (x.rotateRight 2).toNat)/\w=w':=by
 rw[<-iI x 2 G G];have a:bits .and .u64 (jm.wrap (-2)) 31=30:=by decide
 go_enter jG,jH
 go_wp2
 go_ret;exact⟨eM (fT x 30 1073741824 4 G G G),rfl⟩
theorem Gl(x:BitVec 32)(w:A):
 jd hQ 218 #[N ja x.toNat,N ih (-13)] w λe w'=>e=jb (N ja (x.rotateRight 13).toNat)/\w=w':=by
 rw[<-iI x 13 G G];have a:bits .and .u64 (jm.wrap (-13)) 31=19:=by decide
 go_enter jG,jH
 go_wp2
 go_ret;exact⟨eM (fT x 19 524288 8192 G G G),rfl⟩
theorem IJ(x:BitVec 32)(w:A):
 jd hQ 218 #[N ja x.toNat,N ih (-22)] w λe w'=>e=jb (N ja (x.rotateRight 22).toNat)/\w=w':=by
 rw[<-iI x 22 G G];have a:bits .and .u64 (jm.wrap (-22)) 31=10:=by decide
 go_enter jG,jH
 go_wp2
 go_ret;exact⟨eM (fT x 10 1024 4194304 G G G),rfl⟩
def le4(a b c d:BitVec 8):BitVec 32:=a.setWidth 32|||b.setWidth 32<<<8|||c.setWidth 32<<<16|||d.setWidth 32<<<24
theorem Kv(d a b c:BitVec 8):bits .or .u32 (bits .or .u32 (bits .or .u32 (d.toNat:Int) ((a.toNat:Int)*256)) ((b.toNat:Int)*65536)) ((c.toNat:Int)*16777216)=((le4 d a b c).toNat:Int):=by
 rw[Be d,show((a.toNat:Int)*256)=_ from vS a 8 256 G G,show((b.toNat:Int)*65536)=_ from vS b 16 65536 G G,
  show((c.toNat:Int)*16777216)=_ from vS c 24 16777216 G G,bor,bor,bor];rfl
theorem AS(g o c n:Nat)(h:4<=n)(i:n<4611686018427387904)(a b d f:BitVec 8)(w:A)(j:w.cell? ⟨g,o,hF⟩=T (N ji a.toNat))(k:w.cell? ⟨g,o+1,hF⟩=T (N ji b.toNat))
 (l:w.cell? ⟨g,o+2,hF⟩=T (N ji d.toNat)) (m:w.cell? ⟨g,o+3,hF⟩=T (N ji f.toNat)):
 jd hQ 240 #[jc (T ⟨g,o,hF⟩) n c] w λe w'=>e=jb (N ja (le4 a b d f).toNat)/\∃q,w'=w.drewN q:=by
 go_enter func240,ntmps240
 go_wp2
 go_quiet (fail)
 go_wp2
 go_ret;exact⟨eM (Kv a b d f),_,rfl⟩
def aF(W:A)(g:Nat)(t:je)(v:List (BitVec 32)):Prop:=
 W.heap[g]?=T (hU (v.map λx=>I .u32 (x.toNat:Int)).toArray t (0,0))
theorem aF.cell{W:A}{g:Nat}{t:je}{v:List (BitVec 32)}(h:aF W g t v){i:Nat}(a:i<v.length):
 W.cell? ⟨g,i,hF⟩=T (N ja (v.getD i 0).toNat):=by
 simp[jJ,show W.heap[g]?=_ from h,a,jz]
theorem aF.frozen{W:A}{g:Nat}{t:je}{v:List (BitVec 32)}(h:aF W g t v)(i:Nat):W.frozen? ⟨g,i,hF⟩=false:=by
 simp[sg,show W.heap[g]?=_ from h]
theorem aF.lt{W:A}{g:Nat}{t:je}{v:List (BitVec 32)}(h:aF W g t v):g<W.heap.size:=(jy.1 h).1
theorem aF.set{W:A}{g:Nat}{t:je}{v:List (BitVec 32)}(h:aF W g t v)(i:Nat)(x:BitVec 32):
 aF (W.setCell ⟨g,i,hF⟩ (N ja x.toNat)) g t (v.set i x):=by
 have a:=h.lt;have b:W.heap[g]=_:=(jy.1 h).2;show(W.heap.modify g _)[g]?=_;rw[qI];simp[a,b,List.map_set]
structure aM(g:Nat)(w w':A):Prop where
 os:w'.os=w.os
 tape:w'.tape=w.tape
 output:w'.output=w.output
 size:w'.heap.size=w.heap.size
 block:∀k,k≠g->w'.heap[k]?=w.heap[k]?
theorem aM.refl(g:Nat)(w:A):aM g w w:=⟨rfl,rfl,rfl,rfl,λ_ _=>rfl⟩
theorem aM.trans{g:Nat}{a b c:A}(h:aM g a b)(k:aM g b c):aM g a c:=
 ⟨k.os.trans h.os,k.tape.trans h.tape,k.output.trans h.output,k.size.trans h.size,λi d=>(k.block i d).trans (h.block i d)⟩
theorem aM.setCell(g i:Nat)(w:A)(x:hH):aM g w (w.setCell ⟨g,i,hF⟩ x):=
 ⟨rfl,rfl,rfl,by simp[qJ],λk hk=>jX _ _ _ _ hk⟩
theorem aM.below{g B:Nat}{w w':A}(h:aM g w w')(a:B<=g):ic B w w':=
 ⟨h.os,h.tape,h.output,lo h.size.symm,λk hk=>h.block k Y⟩
def stA(v:List (BitVec 32))(a b:Nat):List (BitVec 32):=v.set a (v.getD a 0+v.getD b 0)
def stD(v:List (BitVec 32))(d a k:Nat):List (BitVec 32):=v.set d ((v.getD d 0^^^v.getD a 0).rotateLeft k)
def qr(v:List (BitVec 32))(a b c d:Nat):List (BitVec 32):=
 stD (stA (stD (stA (stD (stA (stD (stA v a b) d a 16) c d) b c 12) a b) d a 8) c d) b c 7
theorem pE(v a b):(stA v a b).length=v.length:=by simp[stA]
theorem sE(v a b k):(stD v a b k).length=v.length:=by simp[stD]
theorem zE(v a b c d):(qr v a b c d).length=v.length:=by simp[qr,pE,sE]
theorem JG(x y z:BitVec 32)(a:hZ ((x^^^y).rotateLeft 16=z))(w:A):
 jd hQ 218 #[N ja (bits .xor .u32 (x.toNat:Int) (y.toNat:Int)),N ih 16] w λe w'=>e=jb (N ja z.toNat)/\w=w':=by
 rw[fZ,<-a];exact N7 _ _
theorem KZ(x y z:BitVec 32)(a:hZ ((x^^^y).rotateLeft 12=z))(w:A):
 jd hQ 218 #[N ja (bits .xor .u32 (x.toNat:Int) (y.toNat:Int)),N ih 12] w λe w'=>e=jb (N ja z.toNat)/\w=w':=by
 rw[fZ,<-a];exact Ns _ _
theorem Jk(x y z:BitVec 32)(a:hZ ((x^^^y).rotateLeft 8=z))(w:A):
 jd hQ 218 #[N ja (bits .xor .u32 (x.toNat:Int) (y.toNat:Int)),N ih 8] w λe w'=>e=jb (N ja z.toNat)/\w=w':=by
 rw[fZ,<-a];exact Fe _ _
theorem OB(x y z:BitVec 32)(a:hZ ((x^^^y).rotateLeft 7=z))(w:A):
 jd hQ 218 #[N ja (bits .xor .u32 (x.toNat:Int) (y.toNat:Int)),N ih 7] w λe w'=>e=jb (N ja z.toNat)/\w=w':=by
 rw[fZ,<-a];exact Fq _ _
theorem Co(g:Nat)(t:je)(v:List (BitVec 32))(Q:v.length=16)(a b c d:Nat)(ha:(a:Int)<16)(hb:(b:Int)<16)(hc:(c:Int)<16)(hd:(d:Int)<16)(w:A)
 (h:aF w g t v):
 jd hQ 224 #[jr (T ⟨g,0,hF⟩),N ih a,N ih b,N ih c,N ih d] w λe w'=>
  e=jb (ju #[])/\aM g w w'/\aF w' g t (qr v a b c d):=by
 have f:aM g w w:=aM.refl g w;have n:qr v a b c d=stD (stA (stD (stA (stD (stA (stD (stA v a b) d a 16) c d) b c 12) a b) d a 8) c d) b c 7:=rfl;generalize qr v a b c d=R at n⊢;replace n:=O n
 go_enter func224,ntmps224
 replace f:=O f;replace h:=O h
 go_upto_region 0 with fail
 go_cut []from 10 to 22 (λl=>aF l g t (stA v a b)/\aM g w l)
 case first=>
  have m:=h.cell (i:=a) Y;have B:=h.cell (i:=b) Y;have q:=h.frozen a;generalize j:v.getD a 0=x at m;generalize k:v.getD b 0=y at B;replace j:=O j;replace k:=O k
  go_region
  rw[iA x y]
  go_wp2_with fail
  go_meet
  refine⟨?_,?_⟩
  ·rw[stA,j,k];exact h.set _ _
  exact f.trans ((aM.setCell g a w (N ja (x+y).toNat)).trans ⟨rfl,rfl,rfl,rfl,λ_ _=>rfl⟩)
 obtain⟨o,f⟩:=hcut;clear h;have E:(stA v a b).length=16:=by rw[pE];exact Q
 generalize stA v a b=r at o E n;generalize wc=S at*;replace f:=O f;replace o:=O o
 go_upto_region 1 with fail
 go_cut []from 23 to 38 (λl=>aF l g t (stD r d a 16)/\aM g w l)
 case first=>
  have m:=o.cell (i:=d) Y;have B:=o.cell (i:=a) Y;have q:=o.frozen d;generalize j:r.getD d 0=x at m;generalize k:r.getD a 0=y at B;replace j:=O j;replace k:=O k;obtain⟨z,h⟩:∃z,hZ ((x^^^y).rotateLeft 16=z):=⟨_,O rfl⟩
  go_region_with (go_at_call 218;refine(JG x y z h _).mono ?_;rintro e w' ⟨rfl,rfl⟩)
  all_goals
   go_wp2_with fail
   go_meet
   refine⟨?_,?_⟩
   ·rw[stD,j,k,h];exact o.set _ _
   exact f.trans ((aM.setCell g d S (N ja z.toNat)).trans ⟨rfl,rfl,rfl,rfl,λ_ _=>rfl⟩)
 obtain⟨p,f⟩:=hcut;clear o;have F:(stD r d a 16).length=16:=by rw[sE];exact E
 generalize stD r d a 16=s at p F n;generalize wc=U at*;replace f:=O f;replace p:=O p
 go_upto_region 2 with fail
 go_cut []from 39 to 51 (λl=>aF l g t (stA s c d)/\aM g w l)
 case first=>
  have m:=p.cell (i:=c) Y;have B:=p.cell (i:=d) Y;have q:=p.frozen c;generalize j:s.getD c 0=x at m;generalize k:s.getD d 0=y at B;replace j:=O j;replace k:=O k
  go_region
  rw[iA x y]
  go_wp2_with fail
  go_meet
  refine⟨?_,?_⟩
  ·rw[stA,j,k];exact p.set _ _
  exact f.trans ((aM.setCell g c U (N ja (x+y).toNat)).trans ⟨rfl,rfl,rfl,rfl,λ_ _=>rfl⟩)
 obtain⟨o,f⟩:=hcut;clear p;have H:(stA s c d).length=16:=by rw[pE];exact F
 generalize stA s c d=u at o H n;generalize wc=V at*;replace f:=O f;replace o:=O o
 go_upto_region 3 with fail
 go_cut []from 52 to 67 (λl=>aF l g t (stD u b c 12)/\aM g w l)
 case first=>
  have m:=o.cell (i:=b) Y;have B:=o.cell (i:=c) Y;have q:=o.frozen b;generalize j:u.getD b 0=x at m;generalize k:u.getD c 0=y at B;replace j:=O j;replace k:=O k;obtain⟨z,h⟩:∃z,hZ ((x^^^y).rotateLeft 12=z):=⟨_,O rfl⟩
  go_region_with (go_at_call 218;refine(KZ x y z h _).mono ?_;rintro e w' ⟨rfl,rfl⟩)
  all_goals
   go_wp2_with fail
   go_meet
   refine⟨?_,?_⟩
   ·rw[stD,j,k,h];exact o.set _ _
   exact f.trans ((aM.setCell g b V (N ja z.toNat)).trans ⟨rfl,rfl,rfl,rfl,λ_ _=>rfl⟩)
 obtain⟨p,f⟩:=hcut;clear o;have K:(stD u b c 12).length=16:=by rw[sE];exact H
 generalize stD u b c 12=C at p K n;generalize wc=W at*;replace f:=O f;replace p:=O p
 go_upto_region 4 with fail
 go_cut []from 68 to 80 (λl=>aF l g t (stA C a b)/\aM g w l)
 case first=>
  have m:=p.cell (i:=a) Y;have B:=p.cell (i:=b) Y;have q:=p.frozen a;generalize j:C.getD a 0=x at m;generalize k:C.getD b 0=y at B;replace j:=O j;replace k:=O k
  go_region
  rw[iA x y]
  go_wp2_with fail
  go_meet
  refine⟨?_,?_⟩
  ·rw[stA,j,k];exact p.set _ _
  exact f.trans ((aM.setCell g a W (N ja (x+y).toNat)).trans ⟨rfl,rfl,rfl,rfl,λ_ _=>rfl⟩)
 obtain⟨o,f⟩:=hcut;clear p;have M:(stA C a b).length=16:=by rw[pE];exact K
 generalize stA C a b=D at o M n;generalize wc=X at*;replace f:=O f;replace o:=O o
 go_upto_region 5 with fail
 go_cut []from 81 to 96 (λl=>aF l g t (stD D d a 8)/\aM g w l)
 case first=>
  have m:=o.cell (i:=d) Y;have B:=o.cell (i:=a) Y;have q:=o.frozen d;generalize j:D.getD d 0=x at m;generalize k:D.getD a 0=y at B;replace j:=O j;replace k:=O k;obtain⟨z,h⟩:∃z,hZ ((x^^^y).rotateLeft 8=z):=⟨_,O rfl⟩
  go_region_with (go_at_call 218;refine(Jk x y z h _).mono ?_;rintro e w' ⟨rfl,rfl⟩)
  all_goals
   go_wp2_with fail
   go_meet
   refine⟨?_,?_⟩
   ·rw[stD,j,k,h];exact o.set _ _
   exact f.trans ((aM.setCell g d X (N ja z.toNat)).trans ⟨rfl,rfl,rfl,rfl,λ_ _=>rfl⟩)
 obtain⟨p,f⟩:=hcut;clear o;have P:(stD D d a 8).length=16:=by rw[sE];exact M
 generalize stD D d a 8=o at p P n;generalize wc=W6 at*;replace f:=O f;replace p:=O p
 go_upto_region 6 with fail
 go_cut []from 97 to 109 (λl=>aF l g t (stA o c d)/\aM g w l)
 case first=>
  have m:=p.cell (i:=c) Y;have B:=p.cell (i:=d) Y;have q:=p.frozen c;generalize j:o.getD c 0=x at m;generalize k:o.getD d 0=y at B;replace j:=O j;replace k:=O k
  go_region
  rw[iA x y]
  go_wp2_with fail
  go_meet
  refine⟨?_,?_⟩
  ·rw[stA,j,k];exact p.set _ _
  exact f.trans ((aM.setCell g c W6 (N ja (x+y).toNat)).trans ⟨rfl,rfl,rfl,rfl,λ_ _=>rfl⟩)
 obtain⟨l,f⟩:=hcut;clear p;have l7:(stA o c d).length=16:=by rw[pE];exact P
 generalize stA o c d=p at l l7 n;generalize wc=W7 at*;have f:=O f;replace l:=O l
 go_upto_region 7 with fail
 have m:=l.cell (i:=b) Y;have B:=l.cell (i:=c) Y;have q:=l.frozen b;generalize j:p.getD b 0=x at m;generalize k:p.getD c 0=y at B;replace j:=O j;replace k:=O k;obtain⟨z,h⟩:∃z,hZ ((x^^^y).rotateLeft 7=z):=⟨_,O rfl⟩
 go_region_with (go_at_call 218;refine(OB x y z h _).mono ?_;rintro e w' ⟨rfl,rfl⟩)
 all_goals
  go_wp2_with fail
  go_end0
  refine⟨rfl,?_,?_⟩
  ·exact f.trans ((aM.setCell g b W7 (N ja z.toNat)).trans ⟨rfl,rfl,rfl,rfl,λ_ _=>rfl⟩)
  rw[n,stD,j,k,h];exact l.set _ _
abbrev v8(x:BitVec 8):hH:=I .u8 (x.toNat:Int)
abbrev v32(x:BitVec 32):hH:=I .u32 (x.toNat:Int)
def bj(W:A)(g:Nat)(t:je)(v:LBy):Prop:=
 W.heap[g]?=T (hU (v.map v8).toArray t (0,0))
theorem bj.cell{W:A}{g:Nat}{t:je}{v:LBy}(h:bj W g t v){i:Nat}(a:i<v.length):
 W.cell? ⟨g,i,hF⟩=T (N ji (v.getD i 0).toNat):=by
 simp[jJ,show W.heap[g]?=_ from h,a,jz,v8]
theorem bj.below{W a:A}{g B:Nat}{t:je}{v:LBy}(h:bj W g t v)(b:ic B W a)(c:g<B):bj a g t v:=(b.block g c).trans h
theorem aF.below{W a:A}{g B:Nat}{t:je}{v:List (BitVec 32)}(h:aF W g t v)(b:ic B W a)(c:g<B):aF a g t v:=(b.block g c).trans h
def gS:List (BitVec 32):=[0x61707865,0x3320646e,0x79622d32,0x6b206574]
def nM(b:LBy)(i:Nat):BitVec 32:=le4 (b.getD i 0) (b.getD (i+1) 0) (b.getD (i+2) 0) (b.getD (i+3) 0)
def keyed(kb:LBy):Nat->List (BitVec 32)
 |0=>gS++jR 12 0
 |i+1=>(keyed kb i).set (4+i) (nM kb (4*i))
def mX(kb a:LBy)(c:BitVec 32):Nat->List (BitVec 32)
 |0=>(keyed kb 8).set 12 c
 |i+1=>(mX kb a c i).set (13+i) (nM a (4*i))
theorem yr(kb i):(keyed kb i).length=16:=by induction i with
 |zero=>rfl
 |succ i a=>simp[keyed,a]
theorem Eb(kb nb c i):(mX kb nb c i).length=16:=by induction i with
 |zero=>simp[mX,yr]
 |succ i a=>simp[mX,a]
def eo(kb a:LBy)(c:BitVec 32):List (BitVec 32):=mX kb a c 3
theorem yh(kb nb c):(eo kb nb c).length=16:=Eb _ _ _ _
theorem dq{w:A}{g:Nat}{t:je}{fr:Nat×Nat}{cs:Array hH}(h:w.heap[g]?=T (hU cs t fr)):w.setRow g cs=w:=by
 have a:=(jy.1 h);obtain⟨b,he⟩:=a;unfold World.setRow
 congr 1
 apply Array.ext_getElem?
 intro i;rw[qI]
 split
 ·rename_i e;subst e;simp[b,he]
 rfl
def oI(w:A):Prop:=Lib.TabIs hQ w "chartroom/cipher.constants" .u32 [0x61707865,0x3320646e,0x79622d32,0x6b206574]
theorem oG:hQ.globalNamed "chartroom/cipher.constants" =T 6:=by kernel_rfl
theorem iW{w:A}{g i:Nat}{v:hH}(h:w.cell? ⟨g,i,hF⟩=T v):g<w.heap.size:=by
 rcases lw g w.heap.size with a|a
 ·exact a
 simp[jJ,qi a]at h
theorem Jc{w:A}(b:w.cell? ⟨6,0,hF⟩=T (N ja 0x61707865))(c:w.cell? ⟨6,1,hF⟩=T (N ja 0x3320646e))(d:w.cell? ⟨6,2,hF⟩=T (N ja 0x79622d32))(e:w.cell? ⟨6,3,hF⟩=T (N ja 0x6b206574)):
 ∀(j:Nat) (v:hH),(gS.map v32)[j]?=T v->w.cell? ((⟨6,0,hF⟩:jt).add j)=T v:=by
 intro j v a
 match j,a with
 |0,a=>simp[gS,v32]at a;subst a;exact b
 |1,a=>simp[gS,v32]at a;subst a;exact c
 |2,a=>simp[gS,v32]at a;subst a;exact d
 |3,a=>simp[gS,v32]at a;subst a;exact e
 |j+4,a=>simp[gS]at a
theorem ff{w w':A}{p:jt}{v:hH}(h:w.cell? p=T v)(a:w'.heap[p.block]?=w.heap[p.block]?):w'.cell? p=T v:=by
 unfold jJ at*;rw[a];exact h
theorem Jv(w:A)(a B C:Obj):((((w.alloc a).alloc B).alloc C).drew).heap[w.heap.size+1+1]?=T C:=by
 show(((w.alloc a).alloc B).alloc C).heap[w.heap.size+1+1]?=T C;have:=jn ((w.alloc a).alloc B) C
 simpa using this
theorem Ej(w:A)(a B C:Obj)(k:Nat)(hk:k<w.heap.size):((((w.alloc a).alloc B).alloc C).drew).heap[k]?=w.heap[k]?:=by
 show(((w.alloc a).alloc B).alloc C).heap[k]?=_;rw[jk _ _ _ (by simp;omega),jk _ _ _ (by simp;omega),jk _ _ _ hk]
theorem Lv:∀v∈gS.map v32,v.oneCell'=true:=by
 intro v a;obtain⟨x,_,rfl⟩:=j0.1 a
 rfl
theorem Ap{P:jq}(t e:je)(n:Nat)(a:P.underlying t=T (.array n e))(c:∀w,(sizeOf e).run P w=.ok 1 w)(g o l:Nat)(d:l<n)(W:A):
 (Instr.sliceAt t (jr (T ⟨g,o,hF⟩)) (T (N ih (l:Int))) hF hF).run P W=.ok (jc (T ⟨g,o+l,hF⟩) (n-l) (n-l)) W:=by
 have he:P.elem t=e:=by simp[Program.elem,a]
 have b:P.arrayLen t=n:=by simp[Program.arrayLen,a]
 rw[run_sliceAt_array_l W t _ (by rw[he,b];exact a) .i64 _ Y (by rw[b];omega)];rw[he,b];simp[c,Result.andThen,slicedAt,Addr.add];rw[if_neg Y]
 split<;>simp[*]
theorem gg:∀w,(sizeOf 5).run hQ w=.ok 1 w:=λw=>by go_simp
theorem MC(kb a:LBy)(c:BitVec 32)(w:A)(hk:kb.length=32)(hn:a.length=12)(d:oI w):
 jd hQ 223 #[jw (kb.map v8).toArray,jw (a.map v8).toArray,N ja c.toNat] w λe w'=>
  e=jb (jw ((eo kb a c).map v32).toArray)/\ic w w w':=by
 have q:w.cell? ⟨6,0,hF⟩=T (N ja 0x61707865):=d.cell oG 0 G;have u:6<w.heap.size:=iW q;have r:w.cell? ⟨6,1,hF⟩=T (N ja 0x3320646e):=d.cell oG 1 G;have s:w.cell? ⟨6,2,hF⟩=T (N ja 0x79622d32):=d.cell oG 2 G;have v:w.cell? ⟨6,3,hF⟩=T (N ja 0x6b206574):=d.cell oG 3 G;generalize y:(kb.map v8).toArray=m;generalize z:(a.map v8).toArray=n;replace y:=O y;replace z:=O z;replace d:=O d
 go_enter func223,ntmps223
 go_wp2
 obtain⟨f,g⟩:∃f:List hH,f=jR 16 (N ja 0):=⟨_,rfl⟩;have i: #[I ii 0,I ii 0,I ii 0,I ii 0,
  I ii 0,I ii 0,I ii 0,I ii 0,
  I ii 0,I ii 0,I ii 0,I ii 0,
  I ii 0,I ii 0,I ii 0,I ii 0]=f.toArray:=by rw[g];rfl
 replace g:=O g;rw[i];replace i:=O i;have j:=Jv w (hU m 55) (hU n 178) (hU f.toArray 312);have h:=Ej w (hU m 55) (hU n 178) (hU f.toArray 312) 6 u;have o:=Jc (ff q h) (ff r h) (ff s h) (ff v h);have p:0+(gS.map v32).length<=f.length:=by rw[g];decide
 replace j:=O j;replace o:=O o;clear h;replace p:=O p
 go_region_law (refine step_copy_splice rfl (.tmp 9) (.tmp 10) 308 308 rfl 267 underlying308 rfl (T ⟨w.heap.size+1+1,0,hF⟩) (T ⟨6,0,hF⟩) 16 16 4 4 (by simp[Act.eval,Act.put]) (by simp[Act.eval,Act.put]) (w.heap.size+1+1) 0 f 312 j (gS.map v32) rfl (λ_=>⟨rfl,_,rfl,o⟩) p Lv (w.heap.size+1+1) _ (js _ _) (jh _) ?_;intro l x h)
 have B:aF l (w.heap.size+1+1) 312 (keyed kb 0):=by
  have e:splice f 0 (gS.map v32)=(keyed kb 0).map v32:=by rw[g];rfl
  show l.heap[_]?=_;rw[x,e]
 have t:bj l w.heap.size 55 kb:=by
  show l.heap[_]?=_;rw[h.block _ Y,y];show(((w.alloc (hU m 55)).alloc (hU n 178)).alloc (hU f.toArray 312)).heap[w.heap.size]?=_;rw[jk _ _ _ (by simp;omega),jk _ _ _ av,jn]
 have C:bj l (w.heap.size+1) 178 a:=by
  show l.heap[_]?=_;rw[h.block _ Y,z];show(((w.alloc (hU m 55)).alloc (hU n 178)).alloc (hU f.toArray 312)).heap[w.heap.size+1]?=_;rw[jk _ _ _ av];have:=jn (w.alloc (hU m 55)) (hU n 178)
  simpa using this
 have D:ic w w l:=by
  refine Below.trans (b:=(((w.alloc (hU m 55)).alloc (hU n 178)).alloc (hU f.toArray 312)).drew) ⟨rfl,rfl,rfl,?_,λk hk=>Ej w _ _ _ k hk⟩ (h.mono Y);show w.heap.size<=(((w.alloc (hU m 55)).alloc (hU n 178)).alloc (hU f.toArray 312)).heap.size;simp;omega
 have Q:=O B;have R:=O t;have S:=O C;have U:=O D;clear B t C D x h p o j g i q r s v d
 go_wp2_with fail
 go_loopw [12] (λi wr=>∃j:Nat,i=N ih j/\j<=8/\hZ (aF wr (w.heap.size+1+1) 312 (keyed kb j))/\hZ (aM (w.heap.size+1+1) l wr)) (λi _=>(8-jg i).toNat)
 case atStart=>exact⟨0,rfl,by omega,Q,aM.refl _ _⟩
 obtain⟨j,rfl,V,g,k⟩:=hrel
 by_cases u:j<8
 ·have h:bj wr (w.heap.size) 55 kb:=(k.block _ Y).trans R
  have o:=h.cell (i:=4*j) Y;have p:=h.cell (i:=4*j+1) Y;have r:=h.cell (i:=4*j+2) Y;have s:=h.cell (i:=4*j+3) Y;have B:=g.frozen (4+j);have C:=g.cell (i:=4+j) (by rw[yr];omega);have v:=O o;have D:=O p;have E:=O r;have F:=O s;clear o p r s h;have X:∀W,(Instr.sliceAt 55 (jr (T ⟨w,0,hF⟩)) (T (N ih (4*(j:Int)))) hF hF).run hQ W=.ok (jc (T ⟨w,4*j,hF⟩) (32-4*j) (32-4*j)) W:=λW=>by
   have:=Ap (P:=hQ) 55 5 32 underlying55 gg (w.heap.size) 0 (4*j) Y W
   simpa using this
  go_wp2_with fail
  refine(AS _ _ _ _ ?_ ?_ _ _ _ _ _ v.out D E F).mono ?_
  ·omega
  ·omega
  rintro e w' ⟨rfl,q,rfl⟩;have d:le4 (kb.getD (4*j) 0) (kb.getD (4*j+1) 0) (kb.getD (4*j+2) 0) (kb.getD (4*j+3) 0)=nM kb (4*j):=rfl;rw[d];clear d;obtain⟨x,d⟩:=J (nM kb (4*j));rw[<-d];have H:=O d;clear d
  go_wp2
  go_roundw
  case rel=>
   refine⟨j+1,by go_num,by omega,?_,?_⟩
   ·show aF _ _ _ (pa _ _ _)
    rw[<-H];exact aF.set (W:=wr.drewN q) g _ _
   exact k.trans (aM.trans (b:=wr.drewN q) ⟨rfl,rfl,rfl,rfl,λ_ _=>rfl⟩ (aM.setCell _ _ _ _))
  case measure=>simp[jg];omega
 have M:j=8:=Y;have K:hZ (aF wr (w.heap.size+1+1) 312 (keyed kb 8)):=M▸g;clear g M;have B:=K.frozen 12;have C:=K.cell (i:=12) (by rw[yr];omega)
 go_wp2_with fail
 clear B C
 go_loopw [25] (λi wr=>∃j:Nat,i=N ih j/\j<=3/\hZ (aF wr (w.heap.size+1+1) 312 (mX kb a c j))/\hZ (aM (w.heap.size+1+1) l wr)) (λi _=>(3-jg i).toNat)
 case atStart=>
  refine⟨0,rfl,by omega,?_,?_⟩
  ·exact aF.set (W:=wr) K _ _
  exact k.trans (aM.setCell _ _ _ _)
 obtain⟨j,rfl,V,g,k⟩:=hrel
 by_cases u:j<3
 ·have h:bj wr (w.heap.size+1) 178 a:=(k.block _ Y).trans S
  have o:=h.cell (i:=4*j) Y;have p:=h.cell (i:=4*j+1) Y;have r:=h.cell (i:=4*j+2) Y;have s:=h.cell (i:=4*j+3) Y;have B:=g.frozen (13+j);have C:=g.cell (i:=13+j) (by rw[Eb];omega);have v:=O o;have D:=O p;have E:=O r;have F:=O s;clear o p r s h;have X:∀W,(Instr.sliceAt 178 (jr (T ⟨w.heap.size+1,0,hF⟩)) (T (N ih (4*(j:Int)))) hF hF).run hQ W=.ok (jc (T ⟨w.heap.size+1,4*j,hF⟩) (12-4*j) (12-4*j)) W:=λW=>by
   have:=Ap (P:=hQ) 178 5 12 underlying178 gg (w.heap.size+1) 0 (4*j) Y W
   simpa using this
  go_wp2_with fail
  refine(AS _ _ _ _ ?_ ?_ _ _ _ _ _ v.out D E F).mono ?_
  ·omega
  ·omega
  rintro e w' ⟨rfl,q,rfl⟩;have d:le4 (a.getD (4*j) 0) (a.getD (4*j+1) 0) (a.getD (4*j+2) 0) (a.getD (4*j+3) 0)=nM a (4*j):=rfl;rw[d];clear d;obtain⟨x,d⟩:=J (nM a (4*j));rw[<-d];have H:=O d;clear d
  go_wp2
  go_roundw
  case rel=>
   refine⟨j+1,by go_num,by omega,?_,?_⟩
   ·show aF _ _ _ (pa _ _ _)
    rw[<-H];exact aF.set (W:=wr.drewN q) g _ _
   exact k.trans (aM.trans (b:=wr.drewN q) ⟨rfl,rfl,rfl,rfl,λ_ _=>rfl⟩ (aM.setCell _ _ _ _))
  case measure=>simp[jg];omega
 have d:j=3:=Y;have r:hZ (aF wr (w.heap.size+1+1) 312 (mX kb a c 3)):=d▸g;clear g d;have h:wr.heap[w.heap.size+1+1]?=T (hU ((eo kb a c).map v32).toArray 312 (0,0)):=r.out;have o:((eo kb a c).map v32).toArray.size=16:=by rw[jI,jK,yh]
 have p:((eo kb a c).map v32).toArray.all (·.oneCell')=true:=by
  rw[jY];intro v d;obtain⟨x,_,rfl⟩:=j0.1 (by simpa using d)
  rfl
 have s:hZ (ic w w wr):=U.trans (k.below Y);generalize g:((eo kb a c).map v32).toArray=d at h o p;have x:=O g;clear g;have g:=O h;have q:=O o;have D:=O p;clear h o p
 go_upto_region 13 with fail
 refine j1 ?_;refine j3 rfl 312 _ rfl (w.heap.size+1+1) rfl 312 d (0,0) _ g.out oi rfl (by rw[q];rfl) ?_;refine qc rfl λ_ t=>qd 312 _ _ rfl (w.heap.size+1+1) d rfl rfl 312 d g.out (by rw[q];rfl) rfl D (t _ _ ?_)
 rw[dq g]
 go_wp2_with fail
 refine kw (v:=jw d) ?_ rfl ?_
 ·exact qe rfl _ _ _ 312 _ (0,0) _ rfl g oi rfl (by rw[q];rfl)
 exact⟨by rw[x],s⟩
def mm(v:List (BitVec 32)):Nat->List (BitVec 32)
 |0=>v
 |i+1=>qr (mm v i) i (4+i) (8+i) (12+i)
def rm(v:List (BitVec 32)):Nat->List (BitVec 32)
 |0=>v
 |i+1=>qr (rm v i) i (4+(i+1)%4) (8+(i+2)%4) (12+(i+3)%4)
def fj(v:List (BitVec 32)):Nat->List (BitVec 32)
 |0=>v
 |r+1=>rm (mm (fj v r) 4) 4
theorem tC(v i):(mm v i).length=v.length:=by induction i with
 |zero=>rfl
 |succ i a=>rw[mm,zE,a]
theorem Ao(v i):(rm v i).length=v.length:=by induction i with
 |zero=>rfl
 |succ i a=>rw[rm,zE,a]
theorem DD(v i):(fj v i).length=v.length:=by induction i with
 |zero=>rfl
 |succ i a=>rw[fj,Ao,tC,a]
theorem Ia(g:Nat)(t:je)(v:List (BitVec 32))(a:v.length=16)(i:Nat)(b:i<4)(w:A)(h:aF w g t v):
 jd hQ 224 #[jr (T ⟨g,0,hF⟩),N ih i,N ih (4+(i:Int)),N ih (8+(i:Int)),N ih (12+(i:Int))] w λe w'=>
  e=jb (ju #[])/\aM g w w'/\aF w' g t (qr v i (4+i) (8+i) (12+i)):=by
 have:=Co g t v a i (4+i) (8+i) (12+i) Y Y Y Y w h
 simpa using this
theorem Lu(g:Nat)(t:je)(v:List (BitVec 32))(a:v.length=16)(i:Nat)(b:i<4)(w:A)(h:aF w g t v):
 jd hQ 224 #[jr (T ⟨g,0,hF⟩),N ih i,N ih (4+((i:Int)+1)%4),N ih (8+((i:Int)+2)%4),N ih (12+((i:Int)+3)%4)] w λe w'=>
  e=jb (ju #[])/\aM g w w'/\aF w' g t (qr v i (4+(i+1)%4) (8+(i+2)%4) (12+(i+3)%4)):=by
 have:=Co g t v a i (4+(i+1)%4) (8+(i+2)%4) (12+(i+3)%4) Y Y Y Y w h
 simpa using this
theorem pY:(hQ.info? 5).map (λi=>(i.zero,i.size,i.bytes))=T (T (N ji 0),1,1):=by kernel_rfl
theorem F0(w:A)(l:List hH)(t:je):∀j a,l[j]?=T a->(w.alloc (hU l.toArray t)).cell? ((⟨w,0,hF⟩:jt).add j)=T a:=by
 intro j a b;have c:(⟨w,0,hF⟩:jt).add j=⟨w,j,hF⟩:=by unfold Addr.add;split<;>simp_all
 rw[c];have d:=jn w (hU l.toArray t);simp only[jJ,d]
 simpa using b
theorem aF.not_row{W:A}{B:Nat}{t e:je}{a:List (BitVec 32)}(h:aF W B t a)(b:t≠e){base size k:Nat}{v:hH}{xs:List hH}(c:W.ownsRow base e size v k xs):T B≠v.ownBlock:=by
 rcases c.2 with⟨rfl,_⟩|⟨g,i,j,rfl,_,d,_⟩
 ·simp[qK]
 intro f;obtain rfl:B=g:=by simpa [qK]using f
 have:=(show W.heap[B]?=_ from h).symm.trans d;simp at this;exact b this.2
theorem aF.grown{W a:A}{B:Nat}{t:je}{b:List (BitVec 32)}(h:aF W B t b){c:Option Nat}(d:W.grownBy a c)(e:T B≠c):aF a B t b:=(d.block B h.lt e).trans h
def o8(x:BitVec 32):LBy:=[x.setWidth 8,(x>>>8).setWidth 8,(x>>>16).setWidth 8,(x>>>24).setWidth 8]
def lm(v s:List (BitVec 32)):Nat->LBy
 |0=>[]
 |i+1=>lm v s i++o8 (v.getD i 0+s.getD i 0)
def mH(kb a:LBy)(c:BitVec 32):LBy:=lm (fj (eo kb a c) 10) (eo kb a c) 16
theorem CU(x:BitVec 32):(x.toNat:Int)%256=((x.setWidth 8).toNat:Int):=by rw[nn];simp
theorem uE(x:BitVec 32)(n d:Nat)(a:d=2^n):(x.toNat:Int)/(d:Int)%256=(((x>>>n).setWidth 8).toNat:Int):=by
 rw[vQ x n d a,CU]
theorem size46:∀w,(sizeOf 267).run hQ w=.ok 1 w:=λw=>by go_simp
theorem agg46:∀w,(isAgg 267).run hQ w=.ok false w:=λw=>by go_simp
theorem JU(V:List (BitVec 32))(b:V.length=16)(k:Nat)(hk:k<16)(W:A):
 (Instr.index 312 (jw (V.map v32).toArray) (N ih (k:Int))).run hQ W=.ok (N ja ((V.getD k 0).toNat:Int)) W:=by
 have c:=oi;have d:(0:Int)<=(k:Int)/\(k:Int)<((16:Nat):Int):=Y;have a:V[k]?=T (V.getD k 0):=by simp[b,hk,jz]
 unfold Instr.index;simp only[sh]at a⊢;generalize V[k]?.getD 0=x at a⊢;simp[asIntOf,qT c,part,a,hk]
theorem Ng:(hQ.info? 312).map (·.size)=T 16:=by kernel_rfl
theorem DJ(w:A)(c a:Array hH)(d:c.size=16)(b:a.size=16)(e:a.all (·.oneCell')=true):
 (storeCells ⟨w,0,hF⟩ a.toList 0).run hQ (w.alloc (hU c 312))=.ok () (w.alloc (hU a 312)):=
 run_storeCells_new w _ c a (by rw[Ng,b]) (by rw[d,b]) e
theorem Fs(kb b:LBy)(c:BitVec 32)(w:A)(hk:kb.length=32)(M:b.length=12)(d:oI w):
 jd hQ 191 #[jw (kb.map v8).toArray,jw (b.map v8).toArray,N ja c.toNat] w λe w'=>
  ∃v,e=jb v/\w'.ownsRow w 5 1 v 64 ((mH kb b c).map v8)/\ic w w w':=by
 have a3:6<w.heap.size:=iW (d.cell oG 0 G);have f:(kb.map v8).toArray.size=32:=by simp[hk]
 have g:(b.map v8).toArray.size=12:=by simp[M]
 have a:=λw h=>MC kb b c w hk M h
 generalize i:(kb.map v8).toArray=u at f a⊢;generalize j:(b.map v8).toArray=y at g a⊢;have S:=O i;have U:=O j;have D:=O a;have E:=O d;have F:=O f;have H:=O g;clear a d i j f g;obtain⟨P,Q,R,m,n⟩:=jV pY
 go_enter func191,ntmps191
 go_upto_region 1 with fail
 refine j1 ?_;refine j3 rfl 55 _ rfl w.heap.size rfl 55 u (0,0) _ ((jk _ _ _ av).trans (jn w _)) underlying55 rfl (by rw[F];rfl) ?_;refine j3 rfl 178 _ rfl (w.heap.size+1) rfl 178 y (0,0) _ (by have:=jn (w.alloc (hU u 55)) (hU y 178);simpa using this) underlying178 rfl (by rw[H];rfl) ?_
 go_wp2_with fail
 refine(D _ ?_).mono ?_
 ·exact(Lib.tabBelow_of_tabIs E) _ ⟨rfl,rfl,rfl,by simp;omega,λk hk=>by rw[jk _ _ _ (by simp;omega),jk _ _ _ hk]⟩
 rintro e a ⟨rfl,i⟩;have d:((eo kb b c).map v32).toArray.size=16:=by rw[jI,jK,yh]
 have g:((eo kb b c).map v32).toArray.all (·.oneCell')=true:=by
  rw[jY];intro v f;obtain⟨x,_,rfl⟩:=j0.1 (by simpa using f)
  rfl
 generalize j:((eo kb b c).map v32).toArray=f at d g⊢;have l:=O j;have p:=O g;have r:=O i;clear j g i;have g:=DJ a #[I ii 0,I ii 0,I ii 0,I ii 0,I ii 0,I ii 0,I ii 0,I ii 0,I ii 0,I ii 0,I ii 0,I ii 0,I ii 0,I ii 0,I ii 0,I ii 0] f rfl d p
 go_upto_region 2 with fail
 clear g;refine j1 ?_;refine j3 rfl 312 _ rfl a.heap.size rfl 312 f (0,0) _ (jn a _) oi rfl (by rw[d];rfl) ?_;have g:=DJ (a.alloc (hU f 312)) #[I ii 0,I ii 0,I ii 0,I ii 0,I ii 0,I ii 0,I ii 0,I ii 0,I ii 0,I ii 0,I ii 0,I ii 0,I ii 0,I ii 0,I ii 0,I ii 0] f rfl d p;rw[jO]at g
 go_upto_region 4 with fail
 clear g;have i:aF ((a.alloc (hU f 312)).alloc (hU f 312)) (a.heap.size+1) 312 (fj (eo kb b c) 0):=by
  have:=jn (a.alloc (hU f 312)) (hU f 312);rw[jO]at this;show _ =T (Obj.cells ((eo kb b c).map v32).toArray 312 (0,0));rw[l];exact this
 have j:aF ((a.alloc (hU f 312)).alloc (hU f 312)) a.heap.size 312 (eo kb b c):=by
  show _ =T (Obj.cells ((eo kb b c).map v32).toArray 312 (0,0));rw[l,jk _ _ _ av];exact jn a _
 have t:ic w w ((a.alloc (hU f 312)).alloc (hU f 312)):=by
  have g:ic w w ((w.alloc (hU u 55)).alloc (hU y 178)):=
   ⟨rfl,rfl,rfl,by simp;omega,λk hk=>by rw[jk _ _ _ (by simp;omega),jk _ _ _ hk]⟩
  have o:=g.trans (r.mono (by simp;omega));have v:=o.size;exact o.trans ⟨rfl,rfl,rfl,by simp;omega,λk hk=>by rw[jk _ _ _ (by simp;omega),jk _ _ _ Y]⟩
 have aa:w.heap.size<=a.heap.size:=by have:=r.size;simp at this;omega
 obtain⟨q,z⟩:=J ((a.alloc (hU f 312)).alloc (hU f 312));rw[<-z]at i j t⊢;have ad:a.heap.size+2<=q.heap.size:=by rw[z];simp
 obtain⟨g,K⟩:=J a.heap.size;rw[<-K]at i j aa ad⊢;have B:=O i;have C:=O j;have s:=O t;clear i j t z d p r l E D S U F H K;clear a;have z:(eo kb b c).length=16:=yh _ _ _;have D:hZ (mH kb b c=lm (fj (eo kb b c) 10) (eo kb b c) 16):=O rfl;generalize eo kb b c=a at B C z D
 go_wp2_with fail
 go_loopw [21] (λt wr=>∃r:Nat,t=N ih r/\r<=10/\hZ (aF wr (g+1) 312 (fj a r))/\hZ (aM (g+1) q wr)) (λt _=>(10-jg t).toNat)
 case atStart=>exact⟨0,rfl,by omega,B,aM.refl _ _⟩
 obtain⟨r,rfl,hr,E,j⟩:=hrel
 by_cases Vf:r<10
 ·have au:=ap ((r:Int)<10)
  have S:=O (show(fj a r).length=16 by rw[DD];exact z)
  go_wp2_with fail
  go_loopw [23] (λt d=>∃i:Nat,t=N ih i/\i<=4/\hZ (aF d (g+1) 312 (mm (fj a r) i))/\hZ (aM (g+1) q d)) (λt _=>(4-jg t).toNat)
  case atStart=>exact⟨0,rfl,by omega,E,j⟩
  obtain⟨i,rfl,hi,d,U⟩:=hrel
  by_cases W:i<4
  ·go_wp2_with fail
   refine(Ia _ _ _ ?_ i W _ d.out).mono ?_
   ·rw[tC];exact S
   rintro e w' ⟨rfl,l,p⟩;have F:=O (U.trans l);have H:=O p;clear l p
   go_wp2
   go_roundw
   case rel=>exact⟨i+1,by go_num,by omega,H,F⟩
   case measure=>simp[jg];omega
  have a1:=ar ((i:Int)<4);have K:i=4:=Y;have X:hZ (aF wr (g+1) 312 (mm (fj a r) 4)):=K▸d;clear d K
  go_wp2_with fail
  go_loopw [36] (λt K=>∃d:Nat,t=N ih d/\d<=4/\hZ (aF K (g+1) 312 (rm (mm (fj a r) 4) d))/\hZ (aM (g+1) q K)) (λt _=>(4-jg t).toNat)
  case atStart=>exact⟨0,rfl,by omega,X,U⟩
  obtain⟨d,rfl,hd,K,V⟩:=hrel
  by_cases al:d<4
  ·go_wp2_with fail
   refine(Lu _ _ _ ?_ d al _ K.out).mono ?_
   ·rw[Ao,tC];exact S
   rintro e w' ⟨rfl,l,p⟩;have F:=O (V.trans l);have H:=O p;clear l p
   go_wp2
   go_roundw
   case rel=>exact⟨d+1,by go_num,by omega,H,F⟩
   case measure=>simp[jg];omega
  have l:d=4:=Y;have p:hZ (aF wr (g+1) 312 (fj a (r+1))):=by
   have h:=K;rw[l]at h;exact h
  clear K l
  go_wp2
  go_roundw
  case rel=>exact⟨r+1,by go_num,by omega,p,V⟩
  case measure=>simp[jg];omega
 have d:r=10:=Y;have p:hZ (aF wr (g+1) 312 (fj a 10)):=d▸E;clear E d
 go_upto_region 17 with fail
 refine j1 ?_;refine wpList_make_own wr rfl _ _ 32 rfl w.heap.size 5 P (N ji 0) 1 jp Q R m .i64 .i64 64 64 rfl rfl rfl (by rw[n];decide) (by unfold jF;omega) ?_ ?_
 ·have:=j.size;have:=s.size;omega
 intro E al d;have H:aF E (g+1) 312 (fj a 10):=p.grown d av;have K:aF E g 312 a:=aF.grown ((j.block _ Y).trans C) d av;have S:ic w w E:=(s.trans (j.below Y)).grown d (by have:=j.size;have:=s.size;omega) av;have F:(fj a 10).length=16:=by rw[DD];exact z
 have l:=O H;have Qo:=O K;have O8:=O S;clear H K S p j C B s d;generalize fj a 10=V at l F D
 go_upto_region 18 with fail
 refine j1 ?_;refine j3 rfl 312 _ rfl (g+1) rfl 312 (V.map v32).toArray (0,0) _ l.out oi rfl (by rw[jI,jK,F];rfl) ?_;have d:∀(k:Nat) (hk:k<16) (W:A),(Instr.index 312 (jw (V.map v32).toArray) (N ih (k:Int))).run hQ W=.ok (N ja ((V.getD k 0).toNat:Int)) W:=λk hk W=>JU V F k hk W
 generalize(V.map v32).toArray=a4 at d⊢;have K:=O d;clear d l
 go_wp2_with fail
 go_loopw [12,58] (λl t wr=>∃k:Nat,t=N ih k/\k<=16/\wr.ownsRow w 5 1 l (4*k) ((lm V a k).map v8)/\hZ (aF wr g 312 a)/\hZ (ic w w wr)) (λ_ t _=>(16-jg t).toNat)
 case atStart=>exact⟨0,rfl,by omega,al,Qo,O8⟩
 obtain⟨k,rfl,a5,d,s,t⟩:=hrel
 by_cases Vg:k<16
 ·have H:=K k Vg
  have S:=s.cell (i:=k) Y;have j:lm V a (k+1)=lm V a k++o8 (V.getD k 0+a.getD k 0):=rfl;generalize V.getD k 0=U at H j;generalize a.getD k 0=xs at S j;have B:=O j;clear j
  go_upto_region 22 with fail
  rw[iA U xs];generalize hx:U+xs=x at B⊢;have au:(x.toNat:Int)%256=_:=CU x;have a1:(x.toNat:Int)/256%256=_:=uE x 8 256 G;have a2:(x.toNat:Int)/65536%256=_:=uE x 16 65536 G;have C:(x.toNat:Int)/(16777216:Int)=(((x>>>24).setWidth 8).toNat:Int):=by
   have:=uE x 24 16777216 G;have j:=x.isLt;rw[<-this];omega
  generalize v:x.setWidth 8=j at au;generalize m:(x>>>8).setWidth 8=l at a1;generalize n:(x>>>16).setWidth 8=p at a2;generalize X:(x>>>24).setWidth 8=y3 at C;have HY:hZ (o8 x=[j,l,p,y3]):=O (by rw[o8,v,m,n,X]);clear hx v m n X H S;have S:=t.size;have H:(lm V a k++o8 x).map v8=(lm V a k).map v8++[N ji j.toNat,N ji l.toNat,N ji p.toNat,N ji ((x.toNat:Int)/(16777216:Int))]:=by
   rw[HY,C];simp[v8]
  clear C;rw[<-B]at H;have X:=O H;clear H B HY
  go_wp2_with (at_builtin;refine qf _ rfl _ _ 32 rfl w.heap.size 5 P (N ji 0) 1 1 jp Q R m n rfl G _ _ _ rfl (d.alloc _) ⟨wr,0,hF⟩ 4 4 [N ji j.toNat,N ji l.toNat,N ji p.toNat,N ji ((x.toNat:Int)/(16777216:Int))] rfl rfl (F0 _ _ _) (by simp[pr]) (by unfold jF;omega) Y (by simp;omega) ?_;intro H w4 B C _)
  rw[<-X]at B;go_roundw
  case rel=>
   refine⟨k+1,by go_num,by omega,B,?_,?_⟩
   ·have o:aF (wr.alloc (hU #[N ji j.toNat,N ji l.toNat,N ji p.toNat,N ji ((x.toNat:Int)/(16777216:Int))] 5)) g 312 a:=(jk _ _ _ s.lt).trans s
    exact o.grown C (o.not_row G (d.alloc _))
   exact(t.alloc S _).grown C (by simp;omega) (λk e=>(d.lt k e).1)
  case measure=>simp[jg];omega
 have i:k=16:=Y;rw[i,<-D]at d;have j:=O d;clear d i K
 go_wp2
 go_ret;exact⟨_,rfl,j,t⟩
theorem kX{w:A}{B a:Nat}{e:je}{size:Nat}{v:hH}{n:Nat}{xs:List hH}(h:w.ownsRow B e size v n xs)(b:a<=B):w.ownsRow a e size v n xs:=by
 refine⟨h.1,?_⟩
 rcases h.2 with c|⟨g,d,f,i,j,k⟩
 ·exact .inl c
 exact .inr ⟨g,d,f,i,jU b j,k⟩
def BytesAt(w:A)(v:hH)(l:LBy):Prop:=
 ∃(p:Option jt) (c:Nat),v=jc p l.length c/\l.length<=c/\(p=hF->c=0)/\
  (0<l.length->∃g o,p=T ⟨g,o,hF⟩/\∀j,j<l.length->w.cell? ⟨g,o+j,hF⟩=T (N ji (l.getD j 0).toNat))
theorem F5(w:A):
 jd hQ 189 #[jc hF 0 0] w λe w'=>e=jb (jc hF 0 0)/\w=w':=by
 have d:∀(w:A) (a:Option jt) (n c n' b:Nat),(binOp .eql 32 (jc a n c) (jc hF n' b)).run hQ w=.ok (.bool a.isNone) w:=λw a n c n' b=>Lib.run_eql_slice_nil w _ _ a n c n' b jp
 go_enter func189,ntmps189
 go_wp2
 go_ret;exact⟨rfl,rfl⟩
theorem Oe(g o c:Nat)(l:LBy)(t:l.length<=1000000)(w:A)(h:∀j,j<l.length->w.cell? ⟨g,o+j,hF⟩=T (N ji (l.getD j 0).toNat)):
 jd hQ 189 #[jc (T ⟨g,o,hF⟩) l.length c] w λe w'=>∃v,e=jb v/\w'.ownsRow w 5 1 v l.length (l.map v8)/\ic w w w':=by
 have D:∀(w:A) (a:Option jt) (n c n' f:Nat),(binOp .eql 32 (jc a n c) (jc hF n' f)).run hQ w=.ok (.bool a.isNone) w:=λw a n c n' f=>Lib.run_eql_slice_nil w _ _ a n c n' f jp
 obtain⟨u,y,z,B,C⟩:=jV pY;have m:∀j b,(l.map v8)[j]?=T b->(w.alloc (hU #[] 5)).cell? ((⟨g,o,hF⟩:jt).add j)=T b:=by
  intro j b i;have d:j<l.length:=by
   have:=(jQ.1 i).1
   simpa using this
  have p:(⟨g,o,hF⟩:jt).add j=⟨g,o+j,hF⟩:=by unfold Addr.add;split<;>simp_all
  rw[p];have k:b=N ji (l.getD j 0).toNat:=by
   simp[d]at i;simp[<-i,v8,d,jz]
  rw[k];exact ff (h j d) (jk _ _ _ (iW (h j d)))
 have i:(w.alloc (hU #[] 5)).ownsRow w.heap.size 5 1 (jc (T ⟨w,0,hF⟩) 0 0) 0 []:=
  ⟨rfl,.inr ⟨w.heap.size,0,#[],rfl,jh _,jn w _,jh _,by unfold jF;omega,rfl,rfl⟩⟩
 have p:∀b∈l.map v8,b.oneCell'=true:=by
  intro b k;obtain⟨x,_,rfl⟩:=j0.1 k
  rfl
 have q:=O m;have r:=O i;have s:=O p;have k:(l.map v8).length=l.length*1:=by simp
 have d:=O k;clear m i p k h;obtain⟨i,h⟩:=J (l.map v8);rw[<-h]at q s d⊢;clear h;generalize l.length=n at t d⊢
 go_enter func189,ntmps189
 go_wp2_with (at_builtin;refine qf _ rfl _ _ 32 rfl w.heap.size 5 u (N ji 0) 1 1 jp y z B C rfl G _ _ _ rfl r ⟨g,o,hF⟩ n c i rfl d q s (by unfold jF;omega) Y av ?_;intro h x m p _)
 go_ret;refine⟨h,rfl,by simpa using m,?_⟩;exact Below.grown (w:=w.alloc (hU #[] 5)) ⟨rfl,rfl,rfl,by simp,λk hk=>jk _ _ _ hk⟩ p av (λk e=>(r.lt k e).1)
def kO(l:LBy):List Int:=l.map λb=>(b.toNat:Int)
theorem NE(l):(kO l).length=l.length:=by simp[kO]
def ir(l:LBy):ByteArray:=strOfNums (kO l)
theorem Dj{α β:Type}{f:α->β}(c:∀a b,f a=f b->a=b):∀(l m:List α),l.map f=m.map f->l=m
 |[],[],_=>rfl
 |[],_ ::_,h=>by simp at h
 |_ ::_,[],h=>by simp at h
 |a::l,b::m,h=>by
  simp only[ow,List.cons.injEq]at h;rw[c a b h.1,Dj c l m h.2]
theorem EP{l m:LBy}(h:(ir l).toList=(ir m).toList):l=m:=by
 have c:Lib.bytesOf (kO l)=Lib.bytesOf (kO m):=by
  rw[<-Lib.strOfNums_toList,<-Lib.strOfNums_toList];exact h
 unfold Lib.bytesOf kO at c;rw[qL,qL]at c;refine Dj ?_ l m c;intro a b d;have e:UInt8.ofNat a.toNat=UInt8.ofNat b.toNat:=by simpa using d
 have f:=congrArg UInt8.toNat e;have g:=a.isLt;have i:=b.isLt;simp at f
 apply BitVec.eq_of_toNat_eq
 omega
theorem gI{w:A}{v:hH}{l:LBy}(h:BytesAt w v l):(convert 32 9 v).run hQ w=.ok (ki (ir l)) w:=by
 obtain⟨p,c,rfl,j,k,d⟩:=h;refine Lib.BytesIn.convert (xs:=kO l) ?_ (NE l) c _ 5 _ jp qa kl
 rcases j4 l.length with a|a
 ·rw[a]
  exact Lib.BytesIn.nil _ _ _
 obtain⟨g,o,rfl,e⟩:=d a;refine Lib.BytesIn.of_cells λi b=>?_
 have f:(⟨g,o,hF⟩:jt).add i=⟨g,o+i,hF⟩:=by unfold Addr.add;split<;>simp_all
 rw[f,e i b];simp[kO,b,jz]
theorem Mh(v b:hH)(l m:LBy)(w:A)(c:BytesAt w v l)(d:BytesAt w b m):
 jd hQ 29 #[v,b] w λe w'=>e=jb (.bool (decide (l=m)))/\w=w':=by
 have f:=gI c;have g:=gI d;have a:((ir l).toList==(ir m).toList)=decide (l=m):=by
  by_cases h:l=m
  ·subst h;simp
  have i:(ir l).toList≠(ir m).toList:=λe=>h (EP e)
  simp only[h,decide_false,beq_eq_false_iff_ne,ne_eq];exact i
 generalize decide (l=m)=D at a⊢;clear c d;generalize ir l=c at f a;generalize ir m=d at g a
 go_enter func29,ntmps29
 go_wp2
 go_ret;exact⟨rfl,rfl⟩
theorem Oi(n:Nat)(r:n<=1000000)(w:A):
 jd hQ 159 #[jc hF 0 0,N ih n] w λe w'=>∃v,e=jb v/\w'.ownsRow w 5 1 v 0 []/\ic w w w':=by
 rcases j4 n with b|b
 ·subst b
  go_enter func159,ntmps159
  go_wp2
  go_ret;exact⟨_,rfl,qM _ _ _ _,js _ _⟩
 obtain⟨i,f,g,j,h⟩:=jV pY;have a:=Lib.run_append_nil_zeros (P:=hQ) w 32 3 32 5 i (N ji 0) .i64 .i64 jp underlying3 f g n b Y Y (by rw[h];omega);have l:=grownCap_ge w n 0 5;have c:=grownCap_le_maxLen w n 0 5 (by unfold jF;omega);generalize grownCap w n 0 5=C at a l c;have d:(Builtin.zeroCells (I .u8 0).cells n++Builtin.zeroCells (I .u8 0).cells (C-n)).size=C*1:=by
  simp[Builtin.zeroCells,Value.cells];omega
 generalize Builtin.zeroCells (I .u8 0).cells n++Builtin.zeroCells (I .u8 0).cells (C-n)=m at a d;have o:=O a;have p:=O d;have q:=O c;clear a d c f g j h;have a:(0:Int)<(n:Int):=Y
 go_enter func159,ntmps159
 go_wp2_with (at_builtin;refine Lib.wpList_append_run _ rfl _ _ 32 3 rfl _ _ rfl rfl _ _ o.out ?_)
 go_ret;refine⟨_,rfl,⟨rfl,.inr ⟨w.heap.size,C,m,rfl,jh _,jn w.drew _,j6 _,q,p,rfl⟩⟩,?_⟩;exact⟨rfl,rfl,rfl,by simp,λk hk=>jk w.drew _ _ hk⟩
theorem AH(l:LBy):∀a∈l.map v8,a.oneCell'=true:=by
 intro a b;obtain⟨x,_,rfl⟩:=j0.1 b
 rfl
theorem addr_add(g o j:Nat):(⟨g,o,hF⟩:jt).add j=⟨g,o+j,hF⟩:=by unfold Addr.add;split<;>simp_all
theorem Ae{w:A}{k:Array jf}{m:List jf}{o:jf}{a:Act}{q:jv->Act->A->Prop}(r:o.guard=hF)(s x:j8)
 (t:o.op=.call {callee:=.builtin .append,args:=#[s,x],argTypes:=#[32,32]}) (base:Nat)
 (v:hH) (n:Nat) (xs:List hH) (u:a.eval s=v) (d:w.ownsRow base 5 1 v n xs) (f:hH) (l:LBy) (y:a.eval x=f) (C:BytesAt w f l)
 (R:n+l.length<=100000000) (D:base<=w.heap.size)
 (h:∀b w',w'.ownsRow base 5 1 b (n+l.length) (xs++l.map v8)->w.grownBy w' v.ownBlock->wpList hQ k q m (a.put o.dst b) w'):wpList hQ k q (o::m) a w:=by
 obtain⟨z,B,E,F,H⟩:=jV pY;obtain⟨p,c,rfl,S,K,M⟩:=C
 rcases p with _|P
 ·have e:=K rfl
  subst e;have g:l=[]:=qB Y;subst g;exact wpList_append_own_none r s x 32 t base 5 z 1 jp B v n xs u d y (h v w (by simpa using d) (oo.refl _ _))
 refine qf w r s x 32 t base 5 z (N ji 0) 1 1 jp B E F H rfl G v n xs u d P l.length c (l.map v8) y av ?_ (AH l) (by unfold jF;omega) Y D (λb w' e g _=>h b w' e g);intro j f b;have i:j<l.length:=by
  have:=(jQ.1 b).1
  simpa using this
 obtain⟨g,o,e,Q⟩:=M Y;obtain rfl:=qC.inj e;rw[addr_add,Q j i];simp[i]at b;simp[<-b,v8,i,jz]
theorem BytesAt.below{w w':A}{v:hH}{l:LBy}(h:BytesAt w v l)(d:ic w w w'):BytesAt w' v l:=by
 obtain⟨p,c,rfl,f,i,k⟩:=h;refine⟨p,c,rfl,f,i,λm=>?_⟩;obtain⟨g,o,e,a⟩:=k m;exact⟨g,o,e,λj b=>ff (a j b) (d.block _ (iW (a j b)))⟩
theorem BytesAt.of_own{w:A}{B:Nat}{v:hH}{l:LBy}(h:w.ownsRow B 5 1 v l.length (l.map v8)):BytesAt w v l:=by
 rcases h.2 with⟨rfl,c⟩|⟨g,d,f,rfl,n,i,k,o,p,m⟩
 ·exact⟨hF,0,by rw[c],by omega,λ_=>rfl,λa=>by omega⟩
 refine⟨T ⟨g,0,hF⟩,d,rfl,k,λe=>by simp at e,λ_=>⟨g,0,rfl,λj a=>?_⟩⟩;have b:(f.toList.take (l.length*1))[j]?=(l.map v8)[j]?:=by rw[m]
 simp only[jJ,i];have q:j<l.length*1:=Y;simp[a]at b;simp[b,v8,jz,a]
def fa(a:List (LBy))(k:Nat):LBy:=(a.take k).flatten
theorem Ep(a:List (LBy))(k:Nat)(hk:k<a.length):fa a (k+1)=fa a k++a.getD k []:=by
 unfold fa;rw[List.take_add_one,sn];simp[hk,jz]
theorem ya(a:List (LBy))(k:Nat):(fa a k).length<=a.flatten.length:=by
 have h:a.flatten=fa a k++(a.drop k).flatten:=by
  unfold fa;rw[<-sn,List.take_append_drop]
 rw[h];simp
theorem rU(g m:Nat)(t:je)(f:List hH)(a:List (LBy))(u:f.length=m)(x:a.length=m)(M:a.flatten.length<=1000000)(w:A)
 (b:w.heap[g]?=T (hU f.toArray t (0,0))) (c:∀i,i<m->BytesAt w (f.getD i jj) (a.getD i [])) (P:m<=1000):
 jd hQ 111 #[jc (T ⟨g,0,hF⟩) m m] w λe w'=>∃v,e=jb v/\w'.ownsRow w 5 1 v a.flatten.length (a.flatten.map v8)/\ic w w w':=by
 have y:g<w.heap.size:=(jy.1 b).1;have o:hZ (∀i,i<m->w.cell? ⟨g,i,hF⟩=T (f.getD i jj)):=O λi z=>by
  simp[jJ,b,u,z,jz]
 have r:=O c;clear c b
 go_enter func111,ntmps111
 go_wp2_with fail
 go_loopw [3,11] (λs b wr=>∃k:Nat,b=N ih k/\k<=m/\s=N ih ((fa a k).length:Nat)/\wr=w) (λ_ b _=>(m-jg b).toNat)
 case atStart=>exact⟨0,rfl,by omega,rfl,rfl⟩
 obtain⟨k,rfl,hk,rfl,c⟩:=hrel;have B:=c.symm;subst B;clear c
 by_cases s:k<m
 ·have l:=o k s
  have C:=ya a (k+1);have d:=Ep a k Y;obtain⟨p,c,j,D,E,n⟩:=r k s;rw[j]at l;have h:(fa a (k+1)).length=(fa a k).length+(a.getD k []).length:=by rw[d];simp
  clear j n d;generalize(a.getD k []).length=n at l h D;have j:=O h;clear h;generalize(fa a k).length=q at j⊢;have F:¬((q:Int)+(n:Int)<0):=Y;have H:q+n<=1000000:=aw j
  go_wp2
  refine⟨⟨k+1,by go_num,by omega,?_,trivial⟩,by simp[jg];omega⟩;rw[j];simp
 have Q:hZ (k=m):=O Y;have C:=ya a k
 go_wp2_with fail
 refine(Oi _ Y _).mono ?_;rintro e R ⟨v,rfl,D,c⟩;have E:=O c;clear c
 go_wp2_with fail
 go_loopw [6,27] (λl b c=>∃j:Nat,b=N ih j/\j<=m/\c.ownsRow w 5 1 l (fa a j).length ((fa a j).map v8)/\hZ (ic w w c)) (λ_ b _=>(m-jg b).toNat)
 case atStart=>exact⟨0,rfl,by omega,by simpa [fa]using D,E⟩
 obtain⟨j,rfl,S,b,c⟩:=hrel
 by_cases n:j<m
 ·have F:=ff (o j n) (c.block _ y)
  have l:=(r j n).below c;have d:=Ep a j Y;have p:=ya a (j+1);generalize f.getD j jj=U at F l;generalize a.getD j []=q at d l;have V:=c.size;have h:(fa a j).length+q.length<=1000000:=by rw[d,n0]at p;omega
  have H:=O d;have K:=O l;clear d l p
  go_wp2_with (at_builtin;refine Ae rfl _ _ rfl w.heap.size _ _ _ rfl b _ q rfl K Y Y ?_;intro p W d l)
  go_roundw
  case rel=>
   refine⟨j+1,by go_num,by omega,?_,c.grown l Y (λk e=>(b.lt k e).1)⟩;rw[H]
   simpa using d
  case measure=>simp[jg];omega
 have d:j=m:=Y;have h:fa a j=a.flatten:=by rw[d,<-x];simp[fa]
 rw[h]at b;have l:=O b;clear b d h
 go_wp2
 go_ret;exact⟨_,rfl,l,c⟩
section
structure aV(B:Nat)(e:je)(sz:Nat)(w w':A)(v a:hH)(n:Nat)(xs:List hH):Prop where
 own:w'.ownsRow B e sz a n xs
 grown:w.grownBy w' v.ownBlock
 lies:∀k,a.ownBlock=T k->v.ownBlock=T k\/w.heap.size<=k
theorem aV.trans{B:Nat}{e:je}{sz n n':Nat}{w c d:A}{v f g:hH}{xs i:List hH}(h:aV B e sz w c v f n xs)(k:aV B e sz c d f g n' i):aV B e sz w d v g n' i:=by
 refine⟨k.own,⟨k.grown.os.trans h.grown.os,k.grown.tape.trans h.grown.tape,k.grown.output.trans h.grown.output,jU h.grown.size k.grown.size,λj b l=>?_⟩,λj b=>?_⟩
 ·refine(k.grown.block j (qA b h.grown.size) (λe=>?_)).trans (h.grown.block j b l)
  rcases h.lies j e.symm with a|a
  ·exact l a.symm
  omega
 rcases k.lies j b with a|a
 ·exact h.lies j a
 exact .inr (jU h.grown.size a)
theorem aV.after{B:Nat}{e:je}{sz n:Nat}{w d f:A}{v g:hH}{h:List hH}(a:ic w w d)(k:aV B e sz d f v g n h):aV B e sz w f v g n h:=by
 refine⟨k.own,⟨k.grown.os.trans a.os,k.grown.tape.trans a.tape,k.grown.output.trans a.output,jU a.size k.grown.size,λj b i=>?_⟩,λj b=>?_⟩
 ·exact(k.grown.block j (qA b a.size) i).trans (a.block j b)
 rcases k.lies j b with c|c
 ·exact .inl c
 exact .inr (jU a.size c)
theorem aV.below{B:Nat}{e:je}{sz n:Nat}{w w':A}{v a:hH}{xs b:List hH}{m:Nat}(h:aV B e sz w w' v a n xs)(c:w.ownsRow B e sz v m b)(d:B<=w.heap.size):ic B w w':=
 ⟨h.grown.os,h.grown.tape,h.grown.output,h.grown.size,λk hk=>h.grown.block k Y (λe=>by have:=(c.lt k e.symm).1;omega)⟩
theorem aV.old{B:Nat}{e:je}{sz n:Nat}{w w':A}{v b:hH}{xs:List hH}(h:aV B e sz w w' v b n xs){g:Nat}{o:Obj}(a:w.heap[g]?=T o)(c:v.ownBlock≠T g):w'.heap[g]?=T o:=
 (h.grown.block g (jy.1 a).1 (λe=>c e.symm)).trans a
theorem aV.ne{B:Nat}{e:je}{sz n:Nat}{w w':A}{v a:hH}{xs:List hH}(h:aV B e sz w w' v a n xs){g:Nat}(d:g<w.heap.size)(c:v.ownBlock≠T g):a.ownBlock≠T g:=λe=>by
 rcases h.lies g e with b|b
 ·exact c b
 omega
theorem aV.drop{B:Nat}{e:je}{sz n:Nat}{w w':A}{v a:hH}{xs:List hH}(h:aV B e sz w w' v a n xs):aV B e sz w w' v a n xs:=h
theorem aV.refl{B:Nat}{e:je}{sz n:Nat}{w:A}{v:hH}{xs:List hH}(h:w.ownsRow B e sz v n xs):aV B e sz w w v v n xs:=
 ⟨h,oo.refl _ _,λ_ h=>.inl h⟩
theorem bU{B:Nat}{e:je}{sz n:Nat}{w:A}{v:hH}{xs:List hH}(h:w.ownsRow B e sz v n xs){g:Nat}(a:w.heap.size<=g\/g<B):v.ownBlock≠T g:=λe=>by
 have:=h.lt g e;omega
theorem cZ{B:Nat}{e:je}{sz n:Nat}{w w':A}{v:hH}{xs:List hH}(h:w.ownsRow B e sz v n xs)(c:ic w w w'):w'.ownsRow B e sz v n xs:=by
 refine⟨h.1,?_⟩
 rcases h.2 with a|⟨g,d,f,i,a,b,j⟩
 ·exact .inl a
 exact .inr ⟨g,d,f,i,a,(c.block g (jy.1 b).1).trans b,j⟩
theorem aL{B:Nat}{e:je}{sz n:Nat}{w:A}{v:hH}{xs:List hH}(h:w.ownsRow B e sz v n xs):∃p c,v=jc p n c:=by
 rcases h.2 with⟨rfl,a⟩|⟨g,b,d,rfl,-⟩
 ·exact⟨hF,0,by rw[a]⟩
 exact⟨_,b,rfl⟩
section
variable {P:jq}
theorem ly{B:Nat}{e:je}{sz n:Nat}{w w':A}{v a:hH}{xs:List hH}(b:w'.ownsRow B e sz a n xs)(c:w.grownBy w' v.ownBlock)(d:a.ownBlock=v.ownBlock\/a.ownBlock=T w.heap.size):aV B e sz w w' v a n xs:=by
 refine⟨b,c,λk hk=>?_⟩
 rcases d with h|h
 ·exact .inl (h▸hk)
 rw[h]at hk;injection hk with hk
 exact .inr Y
theorem GW{w w':A}{base:Nat}{t a f e:je}{i:TypeInfo}(l:P.underlying t=T (.slice e))(m:P.underlying a=T .string)(o:P.info? e=T i)(q:i.zero=T (N ji 0))
 (r:i.size=1) (u:i.bytes=1) {v h:hH} {n:Nat} {xs:List hH} (p:w.ownsRow base e 1 v n xs) {s:ByteArray} (H:n+s.size<=140737488355328)
 (b:(Builtin.append_ #[t,a] f #[v,ki s]).run P w=.ok h w') (z:h=jc hF 0 0↔v=jc hF 0 0/\s.size=0):h.ownBlock=v.ownBlock\/h.ownBlock=T w.heap.size:=by
 have B:xs.length=n:=by simpa using p.1
 rcases p.2 with⟨rfl,rfl⟩|⟨g,k,x,rfl,K,C,M,Q,D,R⟩
 ·by_cases j:s.size=0
  ·rw[z.2 ⟨rfl,j⟩];exact .inl rfl
  have c:=run_append_nil_string (P:=P) w t a f e i (N ji 0) l m o q s Y Y (by rw[u];omega);rw[c]at b;injection b with d y
  rw[<-d];exact .inr rfl
 by_cases E:n+s.size<=k
 ·have j:x.size=k:=by simpa using D
  have c:=Lib.run_append_room_string (P:=P) w t a f e i l m o r g n k x C s E Y;rw[c]at b;injection b with d y
  rw[<-d];exact .inl rfl
 have F:∀j a,xs[j]?=T a->w.cell? ((⟨g,0,hF⟩:jt).add j)=T a:=p.cells (g:=g) rfl;have c:=Lib.run_append_grow_string (P:=P) w t a f e i (N ji 0) l m o q ⟨g,0,hF⟩ n k xs (by rw[r];simpa using B) F s Y Y (by rw[u];exact growslice_fits Y Y);rw[c]at b;injection b with d y
 rw[<-d];exact .inr rfl
end
theorem ei(W:A)(xs:List hH)(t:je)(fr:Nat×Nat)(sz n c:Nat)(a:xs.length=n*sz)(b:n<=c):bW (W.alloc (hU xs.toArray t fr)) (jc (T ⟨W,0,hF⟩) n c) sz n xs:=by
 refine⟨a,T ⟨W,0,hF⟩,c,rfl,b,(λh=>by cases h),λ_=>⟨W.heap.size,0,rfl,λj f d=>?_⟩⟩;have e:=jn W (hU xs.toArray t fr);unfold jJ;simp only[e]
 simpa using d
theorem af(W:A)(o:Obj):ic W W (W.alloc o):=(js _ W).alloc (jh _) _
structure kz(g:Nat)(w w':A):Prop where
 os:w'.os=w.os
 tape:w'.tape=w.tape
 output:w'.output=w.output
 size:w'.heap.size=w.heap.size
 block:∀k,k≠g->w'.heap[k]?=w.heap[k]?
theorem kz.below{g B:Nat}{w w':A}(h:kz g w w')(a:B<=g):ic B w w':=
 ⟨h.os,h.tape,h.output,lo h.size.symm,λk hk=>h.block k Y⟩
theorem ug{P:jq}{W:A}{g i:Nat}{cs:Array hH}{t:je}{v:hH}(a:W.heap[g]?=T (hU cs t (0,0)))(c:i<cs.size)(d:v.oneCell'=true):
 ∃b,(store ⟨g,i,hF⟩ v).run P W=.ok () b/\b.heap[g]?=T (hU (cs.setIfInBounds i v) t (0,0))/\kz g W b:=by
 refine⟨W.setCell ⟨g,i,hF⟩ v,?_,heap_setCell_same W g i cs t v a,⟨rfl,rfl,rfl,by simp[qJ],λk hk=>jX _ _ _ _ hk⟩⟩;have e:W.cell? ⟨g,i,hF⟩=T cs[i]:=by
  unfold jJ;simp[a,c]
 rw[run_store _ _ _ v _ d,e];simp[frozen_of_row W g i cs t a]
theorem bP{W:A}{g i:Nat}{cs:Array hH}{t:je}(v:hH)(a:W.heap[g]?=T (hU cs t (0,0)))(b:i<cs.size):
 (∃c,W.cell? ⟨g,i,hF⟩=T c)/\W.frozen? ⟨g,i,hF⟩=false/\(W.setCell ⟨g,i,hF⟩ v).heap[g]?=T (hU (cs.setIfInBounds i v) t (0,0))/\kz g W (W.setCell ⟨g,i,hF⟩ v):=by
 refine⟨⟨cs[i],?_⟩,frozen_of_row W g i cs t a,heap_setCell_same W g i cs t v a,⟨rfl,rfl,rfl,by simp[qJ],λk hk=>jX _ _ _ _ hk⟩⟩;unfold jJ;simp[a,b]
theorem cell_of{W:A}{g i:Nat}{cs:Array hH}{t:je}{fr:Nat×Nat}{v:hH}(a:W.heap[g]?=T (hU cs t fr))(b:cs[i]?=T v):W.cell? ⟨g,i,hF⟩=T v:=by
 unfold jJ;simp[a,b]
theorem F6(s:ByteArray):Lib.strCells s=(s.data.toList.map UInt8.toBitVec).map v8:=by
 unfold Lib.strCells;rw[qL]
 rfl
theorem pZ(l:LBy):∀a∈l.map v8,a.oneCell'=true:=by
 intro a b;obtain⟨x,-,rfl⟩:=j0.1 b
 rfl
theorem BytesAt.row{w:A}{v:hH}{l:LBy}(h:BytesAt w v l):bW w v 1 l.length (l.map v8):=by
 obtain⟨p,c,rfl,b,d,f⟩:=h;refine⟨by simp,p,c,rfl,b,d,λi=>?_⟩;obtain⟨g,o,e,k⟩:=f i;refine⟨g,o,e,λj n a=>?_⟩;rw[qN]at a
 cases hx:l[j]? with
 |none=>rw[hx]at a;cases a
 |some x=>
  rw[hx]at a;injection a with a
  have m:=(jQ.1 hx).1;rw[k j m,<-a];simp[jz,hx]
theorem Ad:(hQ.info? 5).map (λi=>(i.zero,i.size,i.bytes))=T (T (N ji 0),1,1):=by kernel_rfl
theorem mF{w:A}{o:jf}{a:Act}{K:Act->A->Prop}{e:jv->Act->A->Prop}(s x:j8)
 (f:o.op=.call {callee:=.builtin .append,args:=#[s,x],argTypes:=#[32,32]})
 (B:Nat) (v:hH) (n:Nat) (xs:List hH) (g:a.eval s=v) (i:w.ownsRow B 5 1 v n xs) (b:hH) (m:Nat) (c:List hH) (j:a.eval x=b) (k:bW w b 1 m c) (l:∀b∈c,b.oneCell'=true)
 (E:n+m<=4000000) (p:B<=w.heap.size) (h:∀d w',aV B 5 1 w w' v d (n+m) (xs++c)->K (a.put o.dst d) w'):o.wp hQ a w K e:=by
 obtain⟨q,r,t,u,y⟩:=jV Ad;exact lN s x 32 f B 5 q (N ji 0) 1 1 jp r t u y rfl G v n xs g i b m c j k l (by unfold jF;omega) Y p
  λd w' z C D=>h d w' (ly z C D)
theorem I4{w:A}{o:jf}{a:Act}{K:Act->A->Prop}{l:jv->Act->A->Prop}(s x:j8)
 (m:o.op=.call {callee:=.builtin .append,args:=#[s,x],argTypes:=#[32,9]})
 (B:Nat) (v:hH) (n:Nat) (xs:List hH) (p:a.eval s=v) (d:w.ownsRow B 5 1 v n xs) (b:ByteArray) (q:a.eval x=ki b)
 (C:n+b.size<=4000000) (r:B<=w.heap.size) (h:∀c w',aV B 5 1 w w' v c (n+b.size) (xs++(b.data.toList.map UInt8.toBitVec).map v8)->K (a.put o.dst c) w'):o.wp hQ a w K l:=by
 obtain⟨t,e,f,g,i⟩:=jV Ad;obtain⟨c,w',j,k,u,y⟩:=Lib.run_append_own_string (P:=hQ) w B 32 9 o.type 5 t jp kl e f g i v n xs d b (by unfold jF;omega) Y r;have z:=GW jp kl e f g i d Y j y;rw[F6]at k;unfold Oper.wp jE;simp only[m,resolve,invoke,builtin,Sem.run_bind,Sem.run_pure,Result.andThen_ok,qD,ow,qE,p,q,j];exact h c w' (ly k u z)
theorem aE{B:Nat}{e:je}{sz n:Nat}{w w':A}{v:hH}{xs:List hH}(h:hZ (w.ownsRow B e sz v n xs))(a:ic w w w'):hZ (w'.ownsRow B e sz v n xs):=O (cZ h a)
end
theorem Mi(x:BitVec 32)(w:A):
 jd hQ 219 #[N ja x.toNat,N ih 6,N ih 11,N ih 25] w λe w'=>
  e=jb (N ja (x.rotateRight 6^^^x.rotateRight 11^^^x.rotateRight 25).toNat)/\w=w':=by
 obtain⟨a,d⟩:=J (x.rotateRight 6);obtain⟨b,f⟩:=J (x.rotateRight 11);obtain⟨c,g⟩:=J (x.rotateRight 25);have h:=L1 x;have i:=Lz x;have j:=Oa x;rw[<-d]at h⊢;rw[<-f]at i⊢;rw[<-g]at j⊢;clear d f g
 go_enter func219,ntmps219
 go_wp2_with fail
 refine(h _).mono ?_;rintro e w' ⟨rfl,rfl⟩
 go_wp2_with fail
 refine(i _).mono ?_;rintro e w' ⟨rfl,rfl⟩
 go_wp2_with fail
 refine(j _).mono ?_;rintro e w' ⟨rfl,rfl⟩
 go_wp2
 go_ret;exact⟨eM (by rw[fZ,fZ]),rfl⟩
theorem MF(x:BitVec 32)(w:A):
 jd hQ 219 #[N ja x.toNat,N ih 2,N ih 13,N ih 22] w λe w'=>
  e=jb (N ja (x.rotateRight 2^^^x.rotateRight 13^^^x.rotateRight 22).toNat)/\w=w':=by
 obtain⟨a,d⟩:=J (x.rotateRight 2);obtain⟨b,f⟩:=J (x.rotateRight 13);obtain⟨c,g⟩:=J (x.rotateRight 22);have h:=Fh x;have i:=Gl x;have j:=IJ x;rw[<-d]at h⊢;rw[<-f]at i⊢;rw[<-g]at j⊢;clear d f g
 go_enter func219,ntmps219
 go_wp2_with fail
 refine(h _).mono ?_;rintro e w' ⟨rfl,rfl⟩
 go_wp2_with fail
 refine(i _).mono ?_;rintro e w' ⟨rfl,rfl⟩
 go_wp2_with fail
 refine(j _).mono ?_;rintro e w' ⟨rfl,rfl⟩
 go_wp2
 go_ret;exact⟨eM (by rw[fZ,fZ]),rfl⟩
def mG(l:LBy):Nat->BitVec 32
 |0=>0
 |j+1=>mG l j<<<8|||(l.getD j 0).setWidth 32
theorem Nn(a:BitVec 32)(y:BitVec 8):bits .or .u32 ((a.toNat:Int)*256%4294967296) (y.toNat:Int)=((a<<<8|||y.setWidth 32).toNat:Int):=by
 have b:((a.toNat:Int)*(256:Int)%(4294967296:Int))=((a<<<8).toNat:Int):=by
  rw[qH,o4];simp
 rw[b,Be y,bor]
theorem Ou(g o c n:Nat)(i:4<=c)(l:LBy)(w:A)(a:∀j,j<4->w.cell? ⟨g,o+j,hF⟩=T (N ji (l.getD j 0).toNat)):
 jd hQ 217 #[jc (T ⟨g,o,hF⟩) n c] w λe w'=>e=jb (N ja (mG l 4).toNat)/\w=w':=by
 replace a:=O a;have k:(4:Int)<=(c:Int):=Y;have p:c≠0:=Y;have q:(0==c)=false:=by simp;omega
 go_enter func217,ntmps217
 go_wp2_with fail
 go_loopw [2,8] (λm t wr=>∃j:Nat,t=N ih j/\j<=4/\m=N ja (mG l j).toNat/\wr=w) (λ_ t _=>(4-jg t).toNat)
 case atStart=>exact⟨0,rfl,by omega,rfl,rfl⟩
 obtain⟨j,rfl,m,rfl,rfl⟩:=hrel
 by_cases d:j<4
 ·have f:=a j d
  have b:mG l (j+1)=mG l j<<<8|||(l.getD j 0).setWidth 32:=rfl;generalize l.getD j 0=y at f b;have h:=O b;clear b
  go_wp2
  refine⟨⟨j+1,by go_num,by omega,?_,trivial⟩,by simp[jg];omega⟩;rw[Nn,h]
 go_wp2
 go_ret;have:j=4:=Y;subst this;exact⟨rfl,rfl⟩
theorem bj.frozen{W:A}{g:Nat}{t:je}{v:LBy}(h:bj W g t v)(i:Nat):W.frozen? ⟨g,i,hF⟩=false:=by
 simp[sg,show W.heap[g]?=_ from h]
theorem bj.lt{W:A}{g:Nat}{t:je}{v:LBy}(h:bj W g t v):g<W.heap.size:=(jy.1 h).1
theorem bj.set{W:A}{g:Nat}{t:je}{v:LBy}(h:bj W g t v)(i:Nat)(x:BitVec 8):
 bj (W.setCell ⟨g,i,hF⟩ (N ji x.toNat)) g t (v.set i x):=by
 have a:=h.lt;have b:W.heap[g]=_:=(jy.1 h).2;show(W.heap.modify g _)[g]?=_;rw[qI];simp[a,b,List.map_set]
def gT(a:LBy)(o n:Nat)(x:BitVec 64):Nat->LBy
 |0=>a
 |j+1=>(gT a o n x j).set (o+(n-1-j)) ((x>>>(8*j)).setWidth 8)
theorem wF(cur o n x j):(gT cur o n x j).length=cur.length:=by induction j with
 |zero=>rfl
 |succ j a=>simp[gT,a]
theorem Ol(x:BitVec 64)(j:Nat):(x.toNat:Int)/2^(8*j)%256=(((x>>>(8*j)).setWidth 8).toNat:Int):=by
 rw[nn,qF,qG];simp
theorem zP(g o c n:Nat)(t:je)(k:n<=8)(b:LBy)(x:BitVec 64)(w:A)(h:bj w g t b)(l:o+n<=b.length)(m:n<=c):
 jd hQ 184 #[jc (T ⟨g,o,hF⟩) n c,N hK x.toNat] w λe w'=>e=jb (ju #[])/\aM g w w'/\bj w' g t (gT b o n x n):=by
 replace h:=O h
 go_enter func184,ntmps184
 go_wp2_with fail
 go_loopw [7] (λa wr=>∃j:Nat,a=N ih j/\j<=n/\hZ (bj wr g t (gT b o n x j))/\hZ (aM g w wr)) (λa _=>(n-jg a).toNat)
 case atStart=>exact⟨0,rfl,by omega,h,aM.refl _ _⟩
 obtain⟨j,rfl,p,a,d⟩:=hrel
 by_cases q:j<n
 ·have f:=a.cell (i:=o+(n-1-j)) (by rw[wF];omega)
  have r:=a.frozen (o+(n-1-j))
  go_wp2
  go_roundw
  case rel=>
   refine⟨j+1,by go_num,by omega,?_,d.trans (aM.setCell _ _ _ _)⟩;rw[Ol];exact a.set _ _
  case measure=>simp[jg];omega
 have f:j=n:=Y;rw[f]at a
 go_wp2
 go_end0
 exact⟨rfl,d,a⟩
theorem FO:(hQ.info? 5).map (λi=>(i.zero,i.size,i.bytes))=T (T (N ji 0),1,1):=by kernel_rfl
def fQ(n:Nat):Nat->LBy
 |0=>[]
 |j+1=>fQ n j++[jB 8 (n/2^(56-8*j))]
theorem zT(n j):(fQ n j).length=j:=by induction j with
 |zero=>rfl
 |succ j a=>simp[fQ,a]
theorem MJ(n k:Nat):(n:Int)/2^(56-8*k)%256=((jB 8 (n/2^(56-8*k))).toNat:Int):=by
 rw[mz];simp
theorem IW(n k:Nat):(fQ n (k+1)).map v8=(fQ n k).map v8++[N ji ((n:Int)/2^(56-8*k)%256)]:=by
 rw[MJ,fQ,sq];rfl
theorem Gk(n:Nat)(m:n<9223372036854775808)(w:A):
 jd hQ 192 #[N ih n] w λe w'=>∃v,e=jb v/\w'.ownsRow w 5 1 v 8 ((fQ n 8).map v8)/\ic w w w':=by
 obtain⟨c,d,f,g,h⟩:=jV FO
 go_enter func192,ntmps192
 go_wp2_with fail
 go_loopw [2,4] (λl t wr=>∃k:Nat,t=N ih k/\k<=8/\wr.ownsRow w 5 1 l k ((fQ n k).map v8)/\ic w w wr) (λ_ t _=>(8-jg t).toNat)
 case atStart=>exact⟨0,rfl,by omega,qM _ _ _ _,js _ _⟩
 obtain⟨k,rfl,hk,b,a⟩:=hrel
 by_cases o:k<8
 ·have i:=a.size
  replace a:=O a
  go_wp2_with (at_builtin;refine qf _ rfl _ _ 32 rfl w.heap.size 5 c (N ji 0) 1 1 jp d f g h rfl G _ _ _ rfl (b.alloc _) ⟨wr,0,hF⟩ 1 1 [N ji ((n:Int)/2^(56-8*k)%256)] rfl rfl (cell_one_new _ _ _) (by simp[pr]) (by unfold jF;omega) Y (by simp;omega) ?_;intro p q j l _)
  go_roundw
  case rel=>
   refine⟨k+1,by go_num,by omega,?_,?_⟩
   ·rw[IW];exact j
   exact(a.alloc i _).grown l (by simp;omega) (λk e=>(b.lt k e).1)
  case measure=>simp[jg];omega
 have i:k=8:=Y;rw[i]at b;have j:=O b;replace a:=O a;clear b
 go_wp2
 go_ret;exact⟨_,rfl,j,a⟩
section
section
variable {P:jq} {ops:Array jf} {md:Region.Mode} {C:A->Prop}
def pF(P:jq)(md:Region.Mode)(ops:Array jf)(C:A->Prop)(n:Nat)(c:Array Bool->Act->Prop):Nat->Array Bool->Act->Prop
 |0,b,a=>c b a
 |f+1,b,a=>Region.ready md ops b≠[]/\∀i∈Region.ready md ops b,i<n/\qOp P ops C i (pF P md ops C n c f (b.setIfInBounds i true)) a
theorem Mj{n g:Nat}{d:Array Bool->Act->Prop}{Q':jv->Act->A->Prop}(e:∀b a w,C w->d b a->wpAny P md ops Q' g b a w):
 ∀(f:Nat) (b:Array Bool) (a:Act) (w:A),C w->pF P md ops C n d f b a->wpAny P md ops Q' (f+g) b a w:=by
 intro f
 induction f with
 |zero=>
  intro b a w c h;rw[jL];exact e _ _ _ c h
 |succ f j=>
  intro b a w c h;rw[Nat.add_right_comm f 1 g];refine⟨λk=>absurd k h.1,λi l=>?_⟩;exact wpOp_of_qOp c (λm w' o p=>j _ m w' o p) (h.2 i l).2
theorem Om{n i:Nat}{p:jf}{v:hH}{u:Array Bool->Act->Prop}(w:ops[i]?=T p)(y:∀(j:Nat) (o:jf) cs b,ops[j]?=T o->o.op≠.select cs b)
 (z:Region.sinkB md ops n=true) (B:Region.chainB md ops n=true) (D:n<ops.size) (E:i<n) (R:∀c a,u c a->∀j∈Region.ready md ops c,n<=j):
 ∀(f:Nat) (c:Array Bool) (a:Act),HeadInv md ops n c->
  (∀j l,ops[j]?=T l->j≠i->c.getD j true=false->(∀e∈l.after,Region.binds md e=true->e.on≠i)->p.apart ops l=true)->
  i∈Region.ready md ops c->YieldsIn P ops C p v a->
  pF P md ops C n u f (c.setIfInBounds i true) (a.put p.dst v)->pF P md ops C n u (f+1) c a:=by
 intro f
 induction f with
 |zero=>
  intro c a r _ g s H;have t:=(mem_ready.1 g).1;have o:∀j∈Region.ready md ops c,j<n:=λj d=>by
   rcases lw j n with h|h
   ·exact h
   exact absurd d (tail_waits z B D r _ i rfl E t j h)
  refine⟨λh=>(by rw[h]at g;cases g),λj d=>⟨o j d,?_⟩⟩
  rcases Decidable.em (j=i)with rfl|m
  ·exact s.qOp w H
  have F:=R _ _ H j (ready_mono d m);have K:=o j d;omega
 |succ f S=>
  intro c a r M g s H;have t:=(mem_ready.1 g).1;have o:∀j∈Region.ready md ops c,j<n:=λj d=>by
   rcases lw j n with h|h
   ·exact h
   exact absurd d (tail_waits z B D r _ i rfl E t j h)
  refine⟨λh=>(by rw[h]at g;cases g),λj d=>⟨o j d,?_⟩⟩
  rcases Decidable.em (j=i)with rfl|m
  ·exact s.qOp w H
  have F:=(H.2 j (ready_mono d m)).2;obtain⟨Q,l,x,U⟩:=mem_ready.1 d;have V:∀e∈l.after,Region.binds md e=true->e.on≠i:=λe he W X=>by
   have q:=U e he W;rw[X,getD_both t]at q
   cases q
  have K:=qOp_put x (M j l x m Q V) (λcs b=>y i p cs b w) (λcs b=>y j l cs b x) s F;refine qOp_mono (λb q=>S (c.setIfInBounds j true) b (r.set d (o j d)) (λk ok hk aa ad PQ=>M k ok hk aa ?_ PQ) (ready_mono g (Ne.symm m)) q.1 ?_) K
  ·rcases Decidable.em (j=k)with rfl|b
   ·exact Q
   rwa [getD_set_ne true b]at ad
  rw[qW _ _ m];exact q.2
theorem LV{n g:Nat}{e:Act->Prop}(s:Region.noSelect ops=true)(t:Region.sinkB md ops n=true)(u:Region.chainB md ops n=true)(w:n<ops.size):
 ∀(l:List jf) (k:Nat) (b:Array Bool) (a:Act),(∀j,j<l.length->l[j]?=ops[k+j]?)->k+l.length=n->HeadInv md ops n b->
 Region.lexHead md ops g l.length k b=true->wpQuiet P ops C e l a->
 pF P md ops C n (λf i=>Region.seqB md ops g n f=true/\e i) l.length b a:=by
 intro l
 induction l with
 |nil=>
  intro k b a _ hk _ c h;obtain rfl:k=n:=by simpa using hk
  exact⟨by simpa [Region.lexHead]using c,h⟩
 |cons o l x=>
  intro k b a m hk p c h;have d:ops[k]?=T o:=by simpa using(m 0 av).symm
  simp only[j5,Region.lexHead,jA]at c;obtain⟨⟨y,z⟩,B⟩:=c;have q:k<n:=by simp only[j5]at hk;omega
  have r:k∈Region.ready md ops b:=by simpa using y
  have D:qOp P ops C k (wpQuiet P ops C e l) a:=by unfold qOp;simp only[d];exact h
  obtain⟨v,E,F⟩:=yieldsIn_of_qOp d D;refine Om d (Region.noSelect_spec s) t u w q (λf i H=>seqB_ready H.1) l.length b a p (Region.free_spec d z) r E ?_;exact x (k+1) _ _ (λj f=>by have:=m (j+1) (by simp;omega);simpa [pz,Nat.add_comm 1 j]using this) (by simp only[j5]at hk;omega) (p.set r q) B F
theorem Og{o:Nat}{b:jv->Act->A->Prop}{a:Act}{w:A}{l:List jf}(n:Nat)(p:P.follows .mixedOrders=true)(e:Region.lexTailB .any l.toArray n=true)
 (h:wpQuiet P l.toArray (λw'=>∃m,w'=w.drewN m) (λd=>∀w',(∃m,w'=w.drewN m)->wpList P l.toArray b (l.drop n) d w') (l.take n) a):(Code.region o l.toArray true).wp P b a w:=by
 simp only[Region.lexTailB,jA,decide_eq_true_eq]at e;obtain⟨⟨⟨⟨q,f⟩,r⟩,s⟩,u⟩:=e;have z:n<l.length:=by simpa using f
 have c:(l.take n).length=n:=by simp;omega
 have i:(l.drop n).length=l.toArray.size-n:=by simp
 have v:HeadInv .any l.toArray n (jZ l.toArray.size false):=
  ⟨by simp,λj y _ k=>(by rw[getD_replicate_false]at k;cases k),λt _ x=>getD_in (by simpa using x) (getD_replicate_false _ _)⟩
 have H:=LV (md:=.any) (g:=l.toArray.size-n) q r s f (l.take n) 0 _ a (λj k=>by
  have t:j<n:=by rw[c]at k;exact k
  simp[t]) (by simpa using c) v (by rw[c];exact u) h
 refine wp_region_any p ?_;have t:∃m,({w with drawn:=w.drawn+1}:A)=w.drewN m:=⟨1,rfl⟩;have:=Mj (Q':=b) (g:=l.toArray.size-n) (λx d w' y k=>by
  have:=wpAny_of_seq (md:=.any) (Q':=b) (l.drop n) n x d w' (λj=>by simp[List.getElem?_drop]) (by rw[i];exact k.1) (k.2 w' y)
  rwa [i]at this) _ _ _ _ t H
 rw[c,show n+(l.toArray.size-n)=l.toArray.size by omega]at this;exact this
end
end
def mV(b:LBy):Nat->List (BitVec 32)
 |0=>jR 64 0
 |t+1=>(mV b t).set t (mG (b.drop (4*t)) 4)
theorem ze(b t):(mV b t).length=64:=by induction t with
 |zero=>simp[mV]
 |succ t a=>simp[mV,a]
def gd(x:BitVec 32)(k:Int):BitVec 32:=x.rotateRight (-k).toNat
def yB(W:List (BitVec 32))(t:Nat):BitVec 32:=
 W.getD (t-16) 0+(gd (W.getD (t-15) 0) (-7)^^^gd (W.getD (t-15) 0) (-18)^^^(W.getD (t-15) 0)>>>3)+W.getD (t-7) 0+
  (gd (W.getD (t-2) 0) (-17)^^^gd (W.getD (t-2) 0) (-19)^^^(W.getD (t-2) 0)>>>10)
theorem LM(W:List (BitVec 32))(t:Nat):yB W t=W.getD (t-16) 0+(gd (W.getD (t-15) 0) (-7)^^^gd (W.getD (t-15) 0) (-18)^^^(W.getD (t-15) 0)>>>3)+W.getD (t-7) 0+
 (gd (W.getD (t-2) 0) (-17)^^^gd (W.getD (t-2) 0) (-19)^^^(W.getD (t-2) 0)>>>10):=rfl
theorem ES(x:BitVec 32)(k:Int)(hk:k= -7\/k= -18\/k= -17\/k= -19)(w:A):
 jd hQ 218 #[N ja x.toNat,N ih k] w λe w'=>e=jb (N ja (gd x k).toNat)/\w'=w:=by
 rcases hk with rfl|rfl|rfl|rfl
 ·exact(LX x w).mono λe w' h=>⟨h.1,h.2.symm⟩
 ·exact(Kg x w).mono λe w' h=>⟨h.1,h.2.symm⟩
 ·exact(Ll x w).mono λe w' h=>⟨h.1,h.2.symm⟩
 exact(LU x w).mono λe w' h=>⟨h.1,h.2.symm⟩
theorem Cy(a b c d:BitVec 32):((a.toNat:Int)+(b.toNat:Int)+(c.toNat:Int)+(d.toNat:Int))%4294967296=((a+b+c+d).toNat:Int):=by
 simp only[rv];omega
def tG(x:BitVec 32):BitVec 32:=x.rotateRight 6^^^x.rotateRight 11^^^x.rotateRight 25
def vF(x:BitVec 32):BitVec 32:=x.rotateRight 2^^^x.rotateRight 13^^^x.rotateRight 22
theorem Li(x:BitVec 32)(w:A):
 jd hQ 219 #[N ja x.toNat,N ih 6,N ih 11,N ih 25] w λe w'=>e=jb (N ja (tG x).toNat)/\w'=w:=
 (Mi x w).mono λe w' h=>⟨h.1,h.2.symm⟩
theorem KW(x:BitVec 32)(w:A):
 jd hQ 219 #[N ja x.toNat,N ih 2,N ih 13,N ih 22] w λe w'=>e=jb (N ja (vF x).toNat)/\w'=w:=
 (MF x w).mono λe w' h=>⟨h.1,h.2.symm⟩
def ez(b:LBy):Nat->List (BitVec 32)
 |0=>mV b 16
 |t+1=>(ez b t).set (16+t) (yB (ez b t) (16+t))
theorem nL(b t):(ez b t).length=64:=by induction t with
 |zero=>exact ze b 16
 |succ t a=>simp[ez,a]
theorem tL{P:jq}(t e:je)(a:P.underlying t=T (.slice e))(b:∀w,(sizeOf e).run P w=.ok 1 w)(g o n c l:Nat)(d:l<=n)(f:l<c)(W:A):
 (Instr.sliceAt t (jc (T ⟨g,o,hF⟩) n c) (T (N ih (l:Int))) hF hF).run P W=.ok (jc (T ⟨g,o+l,hF⟩) (n-l) (c-l)) W:=by
 have he:P.elem t=e:=by simp[Program.elem,a]
 rw[qU W t _ _ _ _ (by rw[he];exact a),run_slice_l W t _ n c (by rw[he];exact a) .i64 _ Y Y,he];simp[b,Result.andThen,sliced,Addr.add];rw[if_neg Y]
 split<;>simp[*]
def iX:List (BitVec 32):=[
 1116352408,1899447441,3049323471,3921009573,961987163,1508970993,2453635748,2870763221,
 3624381080,310598401,607225278,1426881987,1925078388,2162078206,2614888103,3248222580,
 3835390401,4022224774,264347078,604807628,770255983,1249150122,1555081692,1996064986,
 2554220882,2821834349,2952996808,3210313671,3336571891,3584528711,113926993,338241895,
 666307205,773529912,1294757372,1396182291,1695183700,1986661051,2177026350,2456956037,
 2730485921,2820302411,3259730800,3345764771,3516065817,3600352804,4094571909,275423344,
 430227734,506948616,659060556,883997877,958139571,1322822218,1537002063,1747873779,
 1955562222,2024104815,2227730452,2361852424,2428436474,2756734187,3204031479,3329325298]
def dH(w:A):Prop:=Lib.TabIs hQ w "chartroom/digest.numbers" .u32 (iX.map λx=>(x.toNat:Int))
theorem LZ:hQ.globalNamed "chartroom/digest.numbers" =T 3:=by kernel_rfl
theorem dH.cell{w:A}(h:dH w)(t:Nat)(a:t<64):w.cell? ⟨3,t,hF⟩=T (N ja (iX.getD t 0).toNat):=by
 have:=Lib.TabIs.cell h LZ t (by simpa [iX]using a);rw[this];have b:t<iX.length:=a;simp[b,jz]
def pR(v:List (BitVec 32))(k x:BitVec 32):BitVec 32:=
 v.getD 7 0+tG (v.getD 4 0)+(v.getD 6 0^^^(v.getD 4 0&&&(v.getD 5 0^^^v.getD 6 0)))+k+x
def qR(v:List (BitVec 32)):BitVec 32:=
 vF (v.getD 0 0)+((v.getD 0 0&&&v.getD 1 0)|||(v.getD 2 0&&&(v.getD 0 0|||v.getD 1 0)))
theorem MQ(v:List (BitVec 32))(k x:BitVec 32):pR v k x=v.getD 7 0+tG (v.getD 4 0)+(v.getD 6 0^^^(v.getD 4 0&&&(v.getD 5 0^^^v.getD 6 0)))+k+x:=rfl
theorem L5(v:List (BitVec 32)):qR v=vF (v.getD 0 0)+((v.getD 0 0&&&v.getD 1 0)|||(v.getD 2 0&&&(v.getD 0 0|||v.getD 1 0))):=rfl
def shR(v:List (BitVec 32)):List (BitVec 32):=splice v 1 (v.take 7)
def oh(v:List (BitVec 32))(k x:BitVec 32):List (BitVec 32):=
 ((shR v).set 4 ((shR v).getD 4 0+pR v k x)).set 0 (pR v k x+qR v)
theorem EA(v)(h:v.length=8):(shR v).length=8:=by simp[shR,splice,h]
theorem La(v k x)(h:v.length=8):(oh v k x).length=8:=by simp[oh,EA v h]
def gO(s W:List (BitVec 32)):Nat->List (BitVec 32)
 |0=>s
 |t+1=>oh (gO s W t) (iX.getD t 0) (W.getD t 0)
theorem C9(s W t)(h:s.length=8):(gO s W t).length=8:=by induction t with
 |zero=>exact h
 |succ t a=>exact La _ _ _ a
def gC(s v:List (BitVec 32)):Nat->List (BitVec 32)
 |0=>s
 |i+1=>(gC s v i).set i ((gC s v i).getD i 0+v.getD i 0)
theorem AY(s v i):(gC s v i).length=s.length:=by induction i with
 |zero=>rfl
 |succ i a=>simp[gC,a]
def mN(s:List (BitVec 32))(b:LBy):List (BitVec 32):=gC s (gO s (ez b 48) 64) 8
theorem Gu(s b)(h:s.length=8):(mN s b).length=8:=by rw[mN,AY,h]
theorem Ba(g o j:Nat):(⟨g,o,hF⟩:jt).add j=⟨g,o+j,hF⟩:=by unfold Addr.add;split<;>simp_all
theorem L4(l:List (BitVec 32)):∀a∈l.map v32,a.oneCell'=true:=by
 intro a b;obtain⟨x,_,rfl⟩:=j0.1 b
 rfl
theorem M0(g p o n c:Nat)(s:List (BitVec 32))(b:LBy)(hs:s.length=8)(hb:b.length=64)(hn:64<=n)(hc:n<=c)(w:A)
 (a:aF w g 274 s) (d:∀j,j<64->w.cell? ⟨p,o+j,hF⟩=T (N ji (b.getD j 0).toNat)) (f:dH w):
 jd hQ 183 #[jr (T ⟨g,0,hF⟩),jc (T ⟨p,o,hF⟩) n c] w λe w'=>
  e=jb (ju #[])/\aF w' g 274 (mN s b)/\(∀k,k<w.heap.size->k≠g->w'.heap[k]?=w.heap[k]?)/\ic 0 w w':=by
 have bq:p<w.heap.size:=iW (d 0 Y);have br:g<w.heap.size:=a.lt;have bs:3<w.heap.size:=iW (f.cell 0 G);have HT:hZ (∀t,t<64->w.cell? ⟨3,t,hF⟩=T (N ja (iX.getD t 0).toNat)):=O λt ht=>f.cell t ht
 have HG:=O a;have HC:=O d;clear a d f
 go_enter func183,ntmps183
 go_upto_region 1 with fail
 have a:aF (w.alloc (hU #[I .u32 0,I .u32 0,I .u32 0,I .u32 0,I .u32 0,I .u32 0,I .u32 0,I .u32 0,I .u32 0,I .u32 0,I .u32 0,I .u32 0,I .u32 0,I .u32 0,I .u32 0,I .u32 0,I .u32 0,I .u32 0,I .u32 0,I .u32 0,I .u32 0,I .u32 0,I .u32 0,I .u32 0,I .u32 0,I .u32 0,I .u32 0,I .u32 0,I .u32 0,I .u32 0,I .u32 0,I .u32 0,I .u32 0,I .u32 0,I .u32 0,I .u32 0,I .u32 0,I .u32 0,I .u32 0,I .u32 0,I .u32 0,I .u32 0,I .u32 0,I .u32 0,I .u32 0,I .u32 0,I .u32 0,I .u32 0,I .u32 0,I .u32 0,I .u32 0,I .u32 0,I .u32 0,I .u32 0,I .u32 0,I .u32 0,I .u32 0,I .u32 0,I .u32 0,I .u32 0,I .u32 0,I .u32 0,I .u32 0,I .u32 0] 304)) w.heap.size 304 (mV b 0):=by
  have:=jn w (hU #[I .u32 0,I .u32 0,I .u32 0,I .u32 0,I .u32 0,I .u32 0,I .u32 0,I .u32 0,I .u32 0,I .u32 0,I .u32 0,I .u32 0,I .u32 0,I .u32 0,I .u32 0,I .u32 0,I .u32 0,I .u32 0,I .u32 0,I .u32 0,I .u32 0,I .u32 0,I .u32 0,I .u32 0,I .u32 0,I .u32 0,I .u32 0,I .u32 0,I .u32 0,I .u32 0,I .u32 0,I .u32 0,I .u32 0,I .u32 0,I .u32 0,I .u32 0,I .u32 0,I .u32 0,I .u32 0,I .u32 0,I .u32 0,I .u32 0,I .u32 0,I .u32 0,I .u32 0,I .u32 0,I .u32 0,I .u32 0,I .u32 0,I .u32 0,I .u32 0,I .u32 0,I .u32 0,I .u32 0,I .u32 0,I .u32 0,I .u32 0,I .u32 0,I .u32 0,I .u32 0,I .u32 0,I .u32 0,I .u32 0,I .u32 0] 304);exact this
 have d:ic w w (w.alloc (hU #[I .u32 0,I .u32 0,I .u32 0,I .u32 0,I .u32 0,I .u32 0,I .u32 0,I .u32 0,I .u32 0,I .u32 0,I .u32 0,I .u32 0,I .u32 0,I .u32 0,I .u32 0,I .u32 0,I .u32 0,I .u32 0,I .u32 0,I .u32 0,I .u32 0,I .u32 0,I .u32 0,I .u32 0,I .u32 0,I .u32 0,I .u32 0,I .u32 0,I .u32 0,I .u32 0,I .u32 0,I .u32 0,I .u32 0,I .u32 0,I .u32 0,I .u32 0,I .u32 0,I .u32 0,I .u32 0,I .u32 0,I .u32 0,I .u32 0,I .u32 0,I .u32 0,I .u32 0,I .u32 0,I .u32 0,I .u32 0,I .u32 0,I .u32 0,I .u32 0,I .u32 0,I .u32 0,I .u32 0,I .u32 0,I .u32 0,I .u32 0,I .u32 0,I .u32 0,I .u32 0,I .u32 0,I .u32 0,I .u32 0,I .u32 0] 304)):=⟨rfl,rfl,rfl,by simp,λk hk=>jk _ _ _ hk⟩;obtain⟨S,f⟩:=J (w.alloc (hU #[I .u32 0,I .u32 0,I .u32 0,I .u32 0,I .u32 0,I .u32 0,I .u32 0,I .u32 0,I .u32 0,I .u32 0,I .u32 0,I .u32 0,I .u32 0,I .u32 0,I .u32 0,I .u32 0,I .u32 0,I .u32 0,I .u32 0,I .u32 0,I .u32 0,I .u32 0,I .u32 0,I .u32 0,I .u32 0,I .u32 0,I .u32 0,I .u32 0,I .u32 0,I .u32 0,I .u32 0,I .u32 0,I .u32 0,I .u32 0,I .u32 0,I .u32 0,I .u32 0,I .u32 0,I .u32 0,I .u32 0,I .u32 0,I .u32 0,I .u32 0,I .u32 0,I .u32 0,I .u32 0,I .u32 0,I .u32 0,I .u32 0,I .u32 0,I .u32 0,I .u32 0,I .u32 0,I .u32 0,I .u32 0,I .u32 0,I .u32 0,I .u32 0,I .u32 0,I .u32 0,I .u32 0,I .u32 0,I .u32 0,I .u32 0] 304));rw[<-f]at a d⊢;have h:S.heap.size=w.heap.size+1:=by rw[f];simp
 have bu:=O h;have HA:=O a;have HB:=O d;clear a d f h
 go_wp2_with fail
 go_loopw [14] (λa wr=>∃t:Nat,a=N ih t/\t<=16/\hZ (aF wr w.heap.size 304 (mV b t))/\hZ (aM w.heap.size S wr)) (λa _=>(16-jg a).toNat)
 case atStart=>exact⟨0,rfl,by omega,HA,aM.refl _ _⟩
 obtain⟨t,rfl,ht,d,al⟩:=hrel
 by_cases bC:t<16
 ·have f:∀j,j<4->wr.cell? ⟨p,(o+4*t)+j,hF⟩=T (N ji ((b.drop (4*t)).getD j 0).toNat):=λj D=>by
   have h1:=HC (4*t+j) Y;have h2:(b.drop (4*t)).getD j 0=b.getD (4*t+j) 0:=by simp[jz]
   rw[h2,pz];exact ff h1 ((al.block _ (by show p≠_;omega)).trans (HB.block _ bq))
  have h:=O f;have bd:=d.frozen t;have C:=d.cell (i:=t) (by rw[ze];omega);have l:∀W,(Instr.sliceAt 32 (jc (T ⟨p,o,hF⟩) n c) (T (N ih (4*(t:Int)))) hF hF).run hQ W=.ok (jc (T ⟨p,o+4*t,hF⟩) (n-4*t) (c-4*t)) W:=λW=>by
   have:=tL (P:=hQ) 32 5 jp gg p o n c (4*t) Y Y W
   simpa using this
  clear f
  go_wp2_with fail
  refine(Ou p (o+4*t) (c-4*t) (n-4*t) Y (b.drop (4*t)) _ h.out).mono ?_;rintro e w' ⟨rfl,rfl⟩;obtain⟨x,f⟩:=J (mG (b.drop (4*t)) 4);rw[<-f];have m:=O f;clear f
  go_wp2
  go_roundw
  case rel=>
   refine⟨t+1,by go_num,by omega,?_,al.trans (aM.setCell _ _ _ _)⟩;show aF _ _ _ (pa _ _ _);rw[<-m];exact d.set _ _
  case measure=>simp[jg];omega
 have f:t=16:=Y;have bv:hZ (aF wr w.heap.size 304 (ez b 0)):=by
  have h:=d;rw[f]at h;exact h
 clear d f;have bI:=ar ((t:Int)<16)
 go_wp2_with fail
 go_loopw [6] (λa wr=>∃q:Nat,a=N ih q/\16<=q/\q<=64/\hZ (aF wr w.heap.size 304 (ez b (q-16)))/\hZ (aM w.heap.size S wr)) (λa _=>(64-jg a).toNat)
 case atStart=>exact⟨16,rfl,by omega,by omega,bv,al⟩
 obtain⟨q,rfl,UY,bK,f,m⟩:=hrel
 by_cases bM:q<64
 ·have bw:=ap ((q:Int)<64)
  have v:=f.cell (i:=q-15) (by rw[nL];omega);have z:=f.cell (i:=q-2) (by rw[nL];omega);have d:=LM (ez b (q-16)) q;generalize(ez b (q-16)).getD (q-15) 0=x at v d;generalize(ez b (q-16)).getD (q-2) 0=y at z d;have u:=O d;clear d
  go_upto_region 9 with fail
  go_quiet (fail)
  go_upto_region 10 with fail
  have r:hZ (aF (wr.drewN nq) w.heap.size 304 (ez b (q-16))):=f;have B:hZ (aM w.heap.size S (wr.drewN nq)):=m.trans ⟨rfl,rfl,rfl,rfl,λ_ _=>rfl⟩;obtain⟨C,E⟩:=J (wr.drewN nq);rw[<-E]at r B⊢;clear E v z f m;have d:=u.out;clear u;have v:=r.cell (i:=q-16) (by rw[nL];omega);have E:=r.cell (i:=q-7) (by rw[nL];omega);have F:=r.cell (i:=q) (by rw[nL];omega);have bd:=r.frozen q;generalize(ez b (q-16)).getD (q-16) 0=z at v d;generalize(ez b (q-16)).getD (q-7) 0=H at E d;generalize(ez b (q-16)).getD q 0=U at F;have u:=O d;clear d;refine Og 29 ae ae ?_;simp only[List.take_succ_cons,List.take_zero,List.drop_succ_cons,List.drop_zero]
  repeat (go_big_quiet_step (exact Calls.quiet_of_same (ES _ _ G _)))
  refine wpQuiet_nil ?_;rintro _ ⟨d,rfl⟩
  go_wp2
  go_roundw
  case rel=>
   refine⟨q+1,by go_num,by omega,by omega,?_,B.trans (aM.trans (b:=C.drewN d) ⟨rfl,rfl,rfl,rfl,λ_ _=>rfl⟩ (aM.setCell _ _ _ _))⟩;have K:q+1-16=(q-16)+1:=Y;have M:16+(q-16)=q:=Y;rw[K];show aF _ _ _ (pa _ (16+(q-16)) (yB _ (16+(q-16))));rw[M];rw[u];have h:=aF.set (W:=C.drewN d) r q (z+(gd x (-7)^^^gd x (-18)^^^x>>>3)+H+(gd y (-17)^^^gd y (-19)^^^y>>>10));have Q:((x.toNat:Int)/(8:Int))=((x>>>3).toNat:Int):=vQ x 3 8 G;have R:((y.toNat:Int)/(1024:Int))=((y>>>10).toNat:Int):=vQ y 10 1024 G;rw[Q,R,fZ,fZ,fZ,fZ,Cy];exact h
  case measure=>simp[jg];omega
 have d:q=64:=Y;have B:hZ (aF wr w.heap.size 304 (ez b 48)):=by
  have h:=f;rw[d]at h;exact h
 have bw:=ar ((q:Int)<64);clear f d;have d:hZ (aF wr g 274 s):=(m.block _ (by show g≠_;omega)).trans ((HB.block _ br).trans HG);have l:s=[s.getD 0 0,s.getD 1 0,s.getD 2 0,s.getD 3 0,s.getD 4 0,s.getD 5 0,s.getD 6 0,s.getD 7 0]:=by
  match s,hs with
  |[a0,a1,a2,a3,a4,a5,a6,a7],_=>rfl
 have r:=d.cell (i:=0) Y;have u:=d.cell (i:=1) Y;have v:=d.cell (i:=2) Y;have C:=d.cell (i:=3) Y;have F:=d.cell (i:=4) Y;have H:=d.cell (i:=5) Y;have K:=d.cell (i:=6) Y;have M:=d.cell (i:=7) Y;generalize s.getD 0 0=s0 at r l;generalize s.getD 1 0=s1 at u l;generalize s.getD 2 0=s2 at v l;generalize s.getD 3 0=s3 at C l;generalize s.getD 4 0=s4 at F l;generalize s.getD 5 0=s5 at H l;generalize s.getD 6 0=s6 at K l;generalize s.getD 7 0=s7 at M l;have E:=O l;clear l
 go_upto_region 12 with fail
 obtain⟨z,h⟩:=J (#[I ii s0.toNat,I ii s1.toNat,I ii s2.toNat,I ii s3.toNat,I ii s4.toNat,I ii s5.toNat,I ii s6.toNat,I ii s7.toNat]);rw[<-h];have f:(s.map v32).toArray=z:=by rw[E,h];rfl
 have U:=O f;clear f h E r u v C F H K M;have C:wr.heap.size=w.heap.size+1:=m.size.trans bu;have K:ic w w wr:=HB.trans (m.below (jh _));have h:aF (wr.alloc (hU z 274)) wr.heap.size 274 (gO s (ez b 48) 0):=by
  have:=jn wr (hU z 274);show _ =T (Obj.cells (s.map v32).toArray 274 (0,0));rw[U];exact this
 have r:aF (wr.alloc (hU z 274)) w.heap.size 304 (ez b 48):=(jk _ _ _ Y).trans B;have u:aF (wr.alloc (hU z 274)) g 274 s:=(jk _ _ _ Y).trans d;have v:ic w w (wr.alloc (hU z 274)):=K.alloc Y _;obtain⟨F,M⟩:=J (wr.alloc (hU z 274));rw[<-M]at h r u v⊢;obtain⟨H,Q⟩:=J wr.heap.size;rw[<-Q]at h C⊢;have bA:w.heap.size<H:=Y;have bf:=O h;have bg:=O r;have UD:=O u;have O4:=O v;clear h r u v M Q C K U d B m;have bh:=O (nL b 48);have d:mN s b=gC s (gO s (ez b 48) 64) 8:=rfl;have au:=O d;clear d;generalize ez b 48=m at bf bg bh au
 go_wp2_with fail
 go_loopw [69] (λa K=>∃r:Nat,a=N ih r/\r<=64/\hZ (aF K H 274 (gO s m r))/\hZ (ic H F K)) (λa _=>(64-jg a).toNat)
 case atStart=>exact⟨0,rfl,by omega,bf,js _ _⟩
 obtain⟨r,rfl,hr,h,C⟩:=hrel
 by_cases Vf:r<64
 ·have bB:=ap ((r:Int)<64)
  have X:hZ (gO s m (r+1)=oh (gO s m r) (iX.getD r 0) (m.getD r 0)):=O rfl;have d:=O (C9 s m r hs);generalize gO s m r=V at h X d;have SH:wr.cell? ⟨w,r,hF⟩=T (N ja (m.getD r 0).toNat):=ff (bg.cell (by rw[bh];exact Vf)) (C.block _ bA);have aa:wr.cell? ⟨3,r,hF⟩=T (N ja (iX.getD r 0).toNat):=
   ff (ff (HT r Vf) (O4.block _ bs)) (C.block _ (by show 3<H;omega))
  generalize iX.getD r 0=M at aa X;generalize m.getD r 0=Q at SH X;have Tv:=O aa;have ad:=O SH;have B:=h.cell (i:=0) (by rw[d];decide);have c1:=h.cell (i:=1) (by rw[d];decide);have c2:=h.cell (i:=2) (by rw[d];decide);have R:=h.cell (i:=4) (by rw[d];decide);have c5:=h.cell (i:=5) (by rw[d];decide);have c6:=h.cell (i:=6) (by rw[d];decide);have c7:=h.cell (i:=7) (by rw[d];decide);have u:=MQ V M Q;have f:=L5 V;generalize V.getD 0 0=v0 at B u f;generalize V.getD 1 0=v1 at c1 u f;generalize V.getD 2 0=v2 at c2 u f;generalize V.getD 4 0=v4 at R u f;generalize V.getD 5 0=v5 at c5 u f;generalize V.getD 6 0=v6 at c6 u f;generalize V.getD 7 0=v7 at c7 u f;have HP:=O u;have U:=O f;clear u f
  go_upto_region 15 with fail
  go_quiet (exact Calls.quiet_of_same (Li _ _))
  simp only[fZ,Bh,Cy,iA];rw[<-HP];have ba:hZ (aF (wr.drewN nq) H 274 V):=h;have bb:hZ (ic H F (wr.drewN nq)):=C.trans ⟨rfl,rfl,rfl,jh _,λ_ _=>rfl⟩;obtain⟨u,v⟩:=J (wr.drewN nq);rw[<-v]at ba bb⊢;have B:u.cell? ⟨H,0,hF⟩=T (N ja v0.toNat):=by rw[v];exact B
  have c1:u.cell? ⟨H,1,hF⟩=T (N ja v1.toNat):=by rw[v];exact c1
  have c2:u.cell? ⟨H,2,hF⟩=T (N ja v2.toNat):=by rw[v];exact c2
  clear v h C R c5 c6 c7 Tv ad aa SH
  go_upto_region 16 with fail
  go_quiet (exact Calls.quiet_of_same (KW _ _))
  simp only[bor,Bh,iA];rw[<-U];have aa:hZ (aF (u.drewN nq) H 274 V):=ba;have bc:hZ (ic H F (u.drewN nq)):=bb.trans ⟨rfl,rfl,rfl,jh _,λ_ _=>rfl⟩;obtain⟨ad,v⟩:=J (u.drewN nq);rw[<-v]at aa bc⊢;clear v ba bb B c1 c2
  go_upto_region 17 with fail
  have ba:ad.drew.heap[H]?=T (hU (V.map v32).toArray 274 (0,0)):=aa.out;have bb:∀(j:Nat) (v:hH),((V.take 7).map v32)[j]?=T v->ad.drew.cell? ((⟨H,0,hF⟩:jt).add j)=T v:=by
   intro j v D;have bk:j<7:=by
    have:=(jQ.1 D).1;simp at this;omega
   have Qu:j<V.length:=by rw[d];omega
   rw[Ba,jL,aF.cell (W:=ad.drew) aa Qu];simp[bk,Qu]at D;simp[<-D,v32,Qu,jz]
  have bk:hZ (ic H F ad.drew):=bc.trans ⟨rfl,rfl,rfl,jh _,λ_ _=>rfl⟩;have UC:=O ba;have bl:=O bb;have D:((V.take 7).map v32).length=7:=by simp[d.out]
  have bm:=O D;have bn:1+((V.take 7).map v32).length<=(V.map v32).length:=by rw[D];simp[d.out]
  have bo:=O bn;have ZH:=O (L4 (V.take 7));clear ba bb D bn
  go_region_law (refine step_copy_splice rfl (.tmp 116) (.tmp 117) 308 308 rfl 267 underlying308 rfl (T ⟨H,1,hF⟩) (T ⟨H,0,hF⟩) 7 7 7 8 (by simp[Act.eval,Act.put]) (by simp[Act.eval,Act.put]) H 1 (V.map v32) 274 UC ((V.take 7).map v32) (by rw[bm];rfl) (λ_=>⟨rfl,_,rfl,bl⟩) bo ZH H F bk (jh _) ?_;intro w4 ba Ry)
  have D:aF w4 H 274 (shR V):=by
   have e:splice (V.map v32) 1 ((V.take 7).map v32)=(shR V).map v32:=by simp[splice,shR,List.map_take,List.map_drop]
   show w4.heap[_]?=_;rw[ba,e]
  have QR:=O D;have Pf:=O Ry;have E:=O (EA V d);have R:=D.cell (i:=4) (by rw[E];decide);have f4:=D.frozen 4;have f0:=D.frozen 0;have B:=D.cell (i:=0) (by rw[E];decide);clear D ba Ry ZH bo bm bl UC bc bk aa;have aa:oh V M Q=((shR V).set 4 ((shR V).getD 4 0+pR V M Q)).set 0 (pR V M Q+qR V):=rfl;have D:=O aa;clear aa;generalize shR V=SV at QR R B D;generalize YZ:SV.getD 4 0=s4 at R D;generalize SV.getD 0 0=s0 at B;generalize pR V M Q=pp at D⊢;generalize qR V=qq at D⊢
  go_wp2
  go_roundw
  case rel=>
   refine⟨r+1,by go_num,by omega,?_,?_⟩
   ·rw[X,D]
    have h1:=QR.set 4 (s4+pp);have h2:=h1.set 0 (pp+qq);simp only[iA];exact h2
   exact(Pf.setCell (jh _) _).setCell (jh _) _
  case measure=>simp[jg];omega
 have j:r=64:=Y;have v:hZ (aF wr H 274 (gO s m 64)):=j▸h;clear h j;have bB:=ar ((r:Int)<64);have d:=O (C9 s m 64 hs);generalize gO s m 64=V at v d au;have D:hZ (aF wr g 274 (gC s V 0)):=(C.block _ (by show g<H;omega)).trans UD;obtain⟨j,rfl⟩:∃j:A,j=wr:=⟨_,rfl⟩
 go_wp2_with fail
 go_loopw [129] (λa K=>∃i:Nat,a=N ih i/\i<=8/\hZ (aF K g 274 (gC s V i))/\hZ (aM g j K)) (λa _=>(8-jg a).toNat)
 case atStart=>exact⟨0,rfl,by omega,D,aM.refl _ _⟩
 obtain⟨i,rfl,Q,a,h⟩:=hrel
 by_cases R:i<8
 ·have K:hZ (aF wr H 274 V):=(h.block _ (by show H≠g;omega)).trans v
  have M:=a.cell (i:=i) (by rw[AY];omega);have B:=K.cell (i:=i) (by rw[d];omega);have bd:=a.frozen i;have u:hZ (gC s V (i+1)=(gC s V i).set i ((gC s V i).getD i 0+V.getD i 0)):=O rfl;generalize(gC s V i).getD i 0=x at M u;generalize V.getD i 0=y at B u
  go_upto_region 24 with fail
  go_region
  rw[iA x y]
  go_wp2
  go_roundw
  case rel=>
   refine⟨i+1,by go_num,by omega,?_,?_⟩
   ·rw[u,iA];exact aF.set (W:=wr) a _ _
   exact h.trans (aM.trans (aM.setCell _ _ _ _) ⟨rfl,rfl,rfl,rfl,λ_ _=>rfl⟩)
  case measure=>simp[jg];omega
 have u:i=8:=Y;have x:hZ (aF wr g 274 (mN s b)):=by rw[au];exact u▸a
 clear a u
 go_wp2
 go_end0
 refine⟨rfl,x,λk hk a=>?_,?_⟩
 ·exact(h.block k a).trans ((C.block k Y).trans (O4.block k hk))
 exact((O4.mono (j6 _)).trans (C.mono (j6 _))).trans (h.below (j6 _))
structure aD(g B:Nat)(w w':A):Prop where
 os:w'.os=w.os
 tape:w'.tape=w.tape
 output:w'.output=w.output
 size:w.heap.size<=w'.heap.size
 block:∀k,k<B->k≠g->w'.heap[k]?=w.heap[k]?
theorem aD.refl(g B:Nat)(w:A):aD g B w w:=⟨rfl,rfl,rfl,jh _,λ_ _ _=>rfl⟩
theorem aD.trans{g B d:Nat}{a b c:A}(h:aD g B a b)(k:aD g d b c)(j:B<=d):aD g B a c:=
 ⟨k.os.trans h.os,k.tape.trans h.tape,k.output.trans h.output,jU h.size k.size,λi f e=>(k.block i Y e).trans (h.block i f e)⟩
theorem aD.below{g B n:Nat}{w w':A}(h:aD g B w w')(a:n<=g)(b:n<=B):ic n w w':=
 ⟨h.os,h.tape,h.output,h.size,λk hk=>h.block k Y Y⟩
theorem aD.of_below{g B:Nat}{w w':A}(h:ic B w w'):aD g B w w':=
 ⟨h.os,h.tape,h.output,h.size,λk hk _=>h.block k hk⟩
theorem aM.but{g:Nat}{w w':A}(h:aM g w w')(B:Nat):aD g B w w':=
 ⟨h.os,h.tape,h.output,lo h.size.symm,λk _ a=>h.block k a⟩
def fs(s:List (BitVec 32))(l:LBy):Nat->List (BitVec 32)
 |0=>s
 |k+1=>mN (fs s l k) ((l.drop (64*k)).take 64)
theorem rX(s l k)(h:s.length=8):(fs s l k).length=8:=by induction k with
 |zero=>exact h
 |succ k a=>exact Gu _ _ a
theorem Bl(g a o n c:Nat)(s:List (BitVec 32))(b:LBy)(d:s.length=8)(f:b.length=64)(i:64<=n)(k:n<=c)(w:A)
 (l:aF w g 274 s) (m:∀j,j<64->w.cell? ⟨a,o+j,hF⟩=T (N ji (b.getD j 0).toNat)) (j:dH w):
 jd hQ 183 #[jr (T ⟨g,0,hF⟩),jc (T ⟨a,o,hF⟩) n c] w λe w'=>
  e=jb (ju #[])/\aF w' g 274 (mN s b)/\aD g w.heap.size w w':=
 (M0 g a o n c s b d f i k w l m j).mono λe w' h=>⟨h.1,h.2.1,h.2.2.2.os,h.2.2.2.tape,h.2.2.2.output,h.2.2.2.size,h.2.2.1⟩
def eD:List (BitVec 32):=[1779033703,3144134277,1013904242,2773480762,1359893119,2600822924,528734635,1541459225]
def fw(w:A):Prop:=Lib.TabIs hQ w "chartroom/digest.start" .u32 (eD.map λx=>(x.toNat:Int))
theorem J2:hQ.globalNamed "chartroom/digest.start" =T 1:=by kernel_rfl
theorem fw.cell{w:A}(h:fw w)(t:Nat)(a:t<8):w.cell? ⟨1,t,hF⟩=T (N ja (eD.getD t 0).toNat):=by
 have:=Lib.TabIs.cell h J2 t (by simpa [eD]using a);rw[this];have b:t<eD.length:=a;simp[b,jz]
def gV(n:Nat):Nat:=if 55<n%64 then 128 else 64
def lL(l:LBy):LBy:=(splice (jR 128 0) 0 (l.drop (64*(l.length/64)))).set (l.length%64) 0x80
def mB(l:LBy):LBy:=gT (lL l) (gV l.length-8) 8 (jB 64 (l.length*8)) 8
def dw(s:List (BitVec 32)):Nat->LBy
 |0=>jR 32 0
 |i+1=>gT (dw s i) (4*i) 4 ((s.getD i 0).setWidth 64) 4
theorem zC(s i):(dw s i).length=32:=by induction i with
 |zero=>simp[dw]
 |succ i a=>simp[dw,wF,a]
def cT(l:LBy):LBy:=dw (fs (fs eD l (l.length/64)) (mB l) (gV l.length/64)) 8
theorem kL(l):(cT l).length=32:=zC _ _
theorem A7(l:LBy):(lL l).length=128:=by
 unfold lL;rw[List.length_set,length_splice _ _ _ (by simp;omega)];simp
theorem Oy(l:LBy):(mB l).length=128:=by rw[mB,wF,A7]
theorem yG(l:LBy)(k:Nat)(h:64*k+64<=l.length):((l.drop (64*k)).take 64).length=64:=by simp;omega
theorem Df(l:LBy)(k j:Nat)(h:j<64):((l.drop (64*k)).take 64).getD j 0=l.getD (64*k+j) 0:=by
 simp[jz,h]
def lenOf:hH->Nat
 | .slice _ n _=>n
 |_=>0
theorem rH{P:jq}(t e:je)(a:P.underlying t=T (.slice e))(b:∀w,(sizeOf e).run P w=.ok 1 w)(g o n c h:Nat)(d:h<=c)(f:0<c)(W:A):
 (Instr.sliceAt t (jc (T ⟨g,o,hF⟩) n c) hF (T (N ih (h:Int))) hF).run P W=.ok (jc (T ⟨g,o,hF⟩) h c) W:=by
 have he:P.elem t=e:=by simp[Program.elem,a]
 rw[qU W t _ _ _ _ (by rw[he];exact a),run_slice_h W t _ n c (by rw[he];exact a) .i64 _ Y Y,he];simp[b,Result.andThen,sliced,Addr.add]
 try(rw[if_neg Y])
 try(split<;>simp[*])
theorem C2{P:jq}(t e:je)(a:P.underlying t=T (.slice e))(b:∀w,(sizeOf e).run P w=.ok 1 w)(g o n c l:Nat)(d:l<=n)(f:n<=c):
 ∃p,(0<n-l->p=T ⟨g,o+l,hF⟩)/\∀W,(Instr.sliceAt t (jc (T ⟨g,o,hF⟩) n c) (T (N ih (l:Int))) hF hF).run P W=.ok (jc p (n-l) (c-l)) W:=by
 have he:P.elem t=e:=by simp[Program.elem,a]
 refine⟨if c=l then T ⟨g,o,hF⟩else T ⟨g,o+l,hF⟩,λh=>by rw[if_neg Y],λW=>?_⟩;rw[qU W t _ _ _ _ (by rw[he];exact a),run_slice_l W t _ n c (by rw[he];exact a) .i64 _ Y Y,he];simp[b,Result.andThen,sliced,Addr.add]
 by_cases h:c=l
 ·simp[h]
 simp[h]
theorem FU{P:jq}(t e:je)(n:Nat)(a:P.underlying t=T (.array n e))(c:∀w,(sizeOf e).run P w=.ok 1 w)(g o l h:Nat)(d:l<=h)(f:h<=n)(i:l<n)(W:A):
 (Instr.sliceAt t (jr (T ⟨g,o,hF⟩)) (T (N ih (l:Int))) (T (N ih (h:Int))) hF).run P W=.ok (jc (T ⟨g,o+l,hF⟩) (h-l) (n-l)) W:=by
 have he:P.elem t=e:=by simp[Program.elem,a]
 have b:P.arrayLen t=n:=by simp[Program.arrayLen,a]
 rw[run_sliceAt_array_lh W t _ (by rw[he,b];exact a) .i64 .i64 _ _ Y Y (by rw[b];omega)];rw[he,b];simp[c,Result.andThen,slicedAt,Addr.add];rw[if_neg Y]
 split<;>simp[*]
theorem M5(g o c:Nat)(t:je)(a:LBy)(x:BitVec 32)(w:A)(h:bj w g t a)(b:o+4<=a.length)(d:4<=c):
 jd hQ 184 #[jc (T ⟨g,o,hF⟩) 4 c,N hK x.toNat] w λe w'=>e=jb (ju #[])/\aM g w w'/\bj w' g t (gT a o 4 (x.setWidth 64) 4):=by
 have e:(x.toNat:Int)=((x.setWidth 64).toNat:Int):=by have:=x.isLt;rw[nn,jD Y]
 rw[e];exact zP g o c 4 t G a (x.setWidth 64) w h b d
theorem Kb(g o c:Nat)(t:je)(a:LBy)(n:Nat)(f:n<1000000000)(w:A)(h:bj w g t a)(b:o+8<=a.length)(d:8<=c):
 jd hQ 184 #[jc (T ⟨g,o,hF⟩) 8 c,N hK ((n:Int)*8)] w λe w'=>e=jb (ju #[])/\aM g w w'/\bj w' g t (gT a o 8 (jB 64 (n*8)) 8):=by
 have e:(n:Int)*8=((jB 64 (n*8)).toNat:Int):=by rw[mz,jD Y];simp
 rw[e];exact zP g o c 8 t G a (jB 64 (n*8)) w h b d
def nE:LBy:=jR 128 0
theorem I5:madeCells (I .u8 0).cells (128*1)=(nE.map v8).toArray:=by
 kernel_rfl
theorem gs(l:LBy):∀a∈l.map v8,a.oneCell'=true:=by
 intro a b;obtain⟨x,_,rfl⟩:=j0.1 b
 rfl
theorem Hk:(hQ.info? 5).map (λi=>(i.zero,i.size,i.bytes))=T (T (N ji 0),1,1):=by kernel_rfl
theorem JK(w:A):(Instr.makeSlice 32 (N ih 64) (N ih 128)).run hQ w=.ok (jc (T ⟨w,0,hF⟩) 64 128) (w.alloc (hU (nE.map v8).toArray 5)):=by
 obtain⟨a,b,c,d,e⟩:=jV Hk;have h:=run_make (P:=hQ) w 32 5 a (N ji 0) jp b c .i64 .i64 64 128 G G (by rw[e];decide) G;rw[d,show((128:Int).toNat*1)=128*1 from rfl,I5]at h;exact h
theorem I7(V:List (BitVec 32))(b:V.length=8)(k:Nat)(hk:k<8)(W:A):
 (Instr.index 274 (jw (V.map v32).toArray) (N ih (k:Int))).run hQ W=.ok (N ja ((V.getD k 0).toNat:Int)) W:=by
 have c:=underlying274;have agg46:∀w,(isAgg 267).run hQ w=.ok false w:=λw=>by go_simp
 have size46:∀w,(sizeOf 267).run hQ w=.ok 1 w:=λw=>by go_simp
 have a:V[k]?=T (V.getD k 0):=by simp[b,hk,jz]
 unfold Instr.index;simp only[sh]at a⊢;generalize V[k]?.getD 0=x at a⊢;simp[asIntOf,qT c,part,agg46,size46,a,hk]
theorem dH.below{w w':A}{B:Nat}(h:dH w)(a:ic B w w')(b:w.heap.size<=B):dH w':=(Lib.tabBelow_of_tabIs h) _ (a.mono b)
theorem rh(v:hH)(l:LBy)(hl:l.length<=1000000)(w:A)(hv:BytesAt w v l)(k:dH w)(a:fw w):
 jd hQ 138 #[v] w λe w'=>e=jb (jw ((cT l).map v8).toArray)/\ic w w w':=by
 obtain⟨p0,c0,rfl,Su,x,t⟩:=hv;obtain⟨g,o,u,i⟩:∃g o,(0<l.length->p0=T ⟨g,o,hF⟩)/\(∀j,j<l.length->g<w.heap.size/\w.cell? ⟨g,o+j,hF⟩=T (N ji (l.getD j 0).toNat)):=by
  rcases j4 l.length with b|b
  ·exact⟨0,0,λh=>by omega,λj f=>by omega⟩
  obtain⟨g,o,d,c⟩:=t b;exact⟨g,o,λ_=>d,λj f=>⟨iW (c j f),c j f⟩⟩
 have Sv:=O u;have RN:=O i;have HN:=O k;have c:=a.cell 0 G;have d:=a.cell 1 G;have m:=a.cell 2 G;have n:=a.cell 3 G;have p:=a.cell 4 G;have q:=a.cell 5 G;have r:=a.cell 6 G;have s:=a.cell 7 G;have F:1<w.heap.size:=iW c;clear u i x t k a;have a:(eD.map v32).toArray= #[v32 (eD.getD 0 0),v32 (eD.getD 1 0),v32 (eD.getD 2 0),v32 (eD.getD 3 0),v32 (eD.getD 4 0),v32 (eD.getD 5 0),v32 (eD.getD 6 0),v32 (eD.getD 7 0)]:=rfl;have k:eD.length=8:=rfl;have t:cT l=dw (fs (fs eD l (l.length/64)) (mB l) (gV l.length/64)) 8:=rfl;have x:=O t;clear t;generalize eD=b at c d m n p q r s a k x;generalize b.getD 0 0=K at c a;generalize b.getD 1 0=M at d a;generalize b.getD 2 0=Q at m a;generalize b.getD 3 0=R at n a;generalize b.getD 4 0=S at p a;generalize b.getD 5 0=U at q a;generalize b.getD 6 0=X at r a;generalize b.getD 7 0=s7 at s a;have E:=O a;have bo:=O k;clear a k
 go_enter func138,ntmps138
 go_upto_region 2 with fail
 have a:aF ((w.alloc (hU aI 23)).alloc (hU #[I ii K.toNat,I ii M.toNat,I ii Q.toNat,I ii R.toNat,I ii S.toNat,I ii U.toNat,I ii X.toNat,I ii s7.toNat] 274)) (w.heap.size+1) 274 (fs b l 0):=by
  have:=jn (w.alloc (hU aI 23)) (hU #[I ii K.toNat,I ii M.toNat,I ii Q.toNat,I ii R.toNat,I ii S.toNat,I ii U.toNat,I ii X.toNat,I ii s7.toNat] 274);rw[jO]at this;show _ =T (Obj.cells (b.map v32).toArray 274 (0,0));rw[E];exact this
 have t:bj ((w.alloc (hU aI 23)).alloc (hU #[I ii K.toNat,I ii M.toNat,I ii Q.toNat,I ii R.toNat,I ii S.toNat,I ii U.toNat,I ii X.toNat,I ii s7.toNat] 274)) w.heap.size 23 (dw [] 0):=by
  have:=jn w (hU aI 23);exact(jk _ _ _ av).trans this
 have u:ic w w ((w.alloc (hU aI 23)).alloc (hU #[I ii K.toNat,I ii M.toNat,I ii Q.toNat,I ii R.toNat,I ii S.toNat,I ii U.toNat,I ii X.toNat,I ii s7.toNat] 274)):=
  ⟨rfl,rfl,rfl,by simp;omega,λk hk=>by rw[jk _ _ _ (by simp;omega),jk _ _ _ hk]⟩
 obtain⟨W2,y⟩:=J ((w.alloc (hU aI 23)).alloc (hU #[I ii K.toNat,I ii M.toNat,I ii Q.toNat,I ii R.toNat,I ii S.toNat,I ii U.toNat,I ii X.toNat,I ii s7.toNat] 274));have z:W2.heap.size=w.heap.size+2:=by rw[y];simp
 rw[<-y]at a t u⊢;obtain⟨D,C⟩:=J w.heap.size;have HA:=O a;have HD:=O t;have B:=O u;rw[<-C]at HA HD B z RN⊢;have bc:=O z;have WB:=O C;clear a t u y z c d m n p q r s E F C
 go_wp2_with fail
 go_loopw [5] (λv m=>∃(k n c:Nat) (p:Option jt),v=jc p n c/\n<=c/\hZ (64*k<=l.length/\n=l.length-64*k/\(0<n->p=T ⟨g,o+64*k,hF⟩))/\hZ (aF m (D+1) 274 (fs b l k))/\hZ (aD (D+1) (D+2) W2 m)) (λv _=>lenOf v)
 case atStart=>exact⟨0,l.length,c0,p0,rfl,Su,⟨by omega,by omega,Sv⟩,HA,aD.refl _ _ _⟩
 obtain⟨k,n,c,p,rfl,bI,d,y,a⟩:=hrel
 by_cases C:64<=n
 ·have hd:=ap (64<=(n:Int))
  go_upto_region 6 with fail
  obtain⟨q1,q2,V⟩:=d.out;obtain rfl:p=T ⟨g,o+64*k,hF⟩:=V Y;have aa:=yG l k Y;have ad:∀j,j<64->wr.cell? ⟨g,(o+64*k)+j,hF⟩=T (N ji (((l.drop (64*k)).take 64).getD j 0).toNat):=λj f=>by
   obtain⟨r1,r2⟩:=RN (64*k+j) Y;rw[Df l k j f,pz];exact ff r2 ((a.block _ (by show g<_;omega) (by show g≠_;omega)).trans (B.block _ (by show g<_;omega)))
  have Qq:=O ad;have bd:=O aa;have al:dH wr:=HN.below (B.trans (a.below Y Y)) (aw WB);have bf:=O al;have bg:=O (rX b l k bo);obtain⟨p',au,t⟩:=C2 (P:=hQ) 32 5 jp gg g (o+64*k) n c 64 C bI;have bh:=O au;have bK:∀W,(Instr.sliceAt 32 (jc (T ⟨g,o+64*k,hF⟩) n c) hF (T (N ih 64)) hF).run hQ W=.ok (jc (T ⟨g,o+64*k,hF⟩) 64 c) W:=
   rH (P:=hQ) 32 5 jp gg g (o+64*k) n c 64 Y Y
  replace t:∀W,(Instr.sliceAt 32 (jc (T ⟨g,o+64*k,hF⟩) n c) (T (N ih 64)) hF hF).run hQ W=.ok (jc p' (n-64) (c-64)) W:=t;clear ad aa al au V q1 q2
  go_wp2_with fail
  refine(Bl (D+1) g (o+64*k) 64 c _ _ bg.out bd (jh _) Y _ y.out Qq bf).mono ?_;rintro e w' ⟨rfl,u,a1⟩;have a2:=O u;have bk:=O (a.trans a1 (by have:=a.size;have:=bc.out;omega));clear u a1
  go_wp2
  go_roundw
  case rel=>
   have q:=d.out;refine⟨k+1,n-64,c-64,p',rfl,by omega,⟨by omega,by omega,λh=>?_⟩,a2,bk⟩;rw[bh h];congr 2
  case measure=>simp[lenOf];omega
 have r:k=l.length/64/\n=l.length%64:=aw d;have bN:n<64:=Y;have hd:=ar (64<=(n:Int));have E:0<n->p=T ⟨g,o+64*k,hF⟩:=d.2.2;have H:(l.drop (64*k)).length=n:=by have:=d.out;simp;omega
 have a3:lL l=(splice (jR 128 0) 0 (l.drop (64*k))).set n 0x80:=by rw[lL,r.1,r.2]
 have a4:cT l=dw (fs (fs b l k) (mB l) (gV l.length/64)) 8:=by rw[x,r.1]
 have ba:gV l.length=if 55<n then 128 else 64:=by rw[gV,r.2]
 have bq:=O a3;have PP:=O a4;have z:=O ba;have br:=O E;have F:=O H;have s:=y;have a5:=O (rX b l k bo);clear r E H a3 a4 ba d y x C;generalize fs b l k=y at s PP a5;have C:=JK;obtain⟨x,r⟩:=J (nE.map v8);rw[<-r]at C;have d:=O r;clear r;have ba:hZ (D+2<=wr.heap.size):=O (by have:=a.size;have:=bc.out;omega)
 go_upto_region 8 with fail
 clear C;have r:bj (wr.alloc (hU x.toArray 5)) wr.heap.size 5 (jR 128 0):=by
  have:=jn wr (hU x.toArray 5);show _ =T (Obj.cells (nE.map v8).toArray 5 (0,0));rw[<-d];exact this
 have bb:aF (wr.alloc (hU x.toArray 5)) (D+1) 274 y:=(jk _ _ _ s.lt).trans s;have C:aD (D+1) (D+2) W2 (wr.alloc (hU x.toArray 5)):=a.trans (aD.of_below (g:=D+1) ((js wr.heap.size wr).alloc (jh _) _)) ba;have H:(wr.alloc (hU x.toArray 5)).heap.size=wr.heap.size+1:=by simp
 obtain⟨W8,bn⟩:=J (wr.alloc (hU x.toArray 5));rw[<-bn]at r bb C H⊢;obtain⟨E,hE⟩:=J wr.heap.size;rw[<-hE]at r H ba⊢;have bs:D+2<=E:=ba.out;have Rs:=O bb;have Qg:=O C;have bu:=O H;have bv:∀(j:Nat) (a3:hH),((l.drop (64*k)).map v8)[j]?=T a3->W8.cell? ((⟨g,o+64*k,hF⟩:jt).add j)=T a3:=by
  intro j a3 f;have T4:j<(l.drop (64*k)).length:=by
   have:=(jQ.1 f).1
   simpa using this
  have Qu:64*k+j<l.length:=by simp at T4;omega
  obtain⟨r1,r2⟩:=RN (64*k+j) Qu;rw[Ba,pz,ff r2 ((C.block _ (by show g<_;omega) (by show g≠_;omega)).trans (B.block _ (by show g<_;omega)))];simp[Qu]at f;simp[<-f,v8,jz,Qu]
 have bl:=O bv;have bw:=O (show W8.heap[E]?=T (hU x.toArray 5 (0,0)) by rw[d];exact r);have ZH:=O (gs (l.drop (64*k)));have bA:0+((l.drop (64*k)).map v8).length<=x.length:=by
  have h1:=F.out;rw[d,jK,h1,jK];simp[nE];omega
 have bm:=O bA;have i:((l.drop (64*k)).map v8).length=n:=by rw[jK];exact F
 have a4:=O i;clear bb C H bv bA i r bn hE a s;obtain⟨RB,a⟩:=J ((l.drop (64*k)).map v8);rw[<-a]at bl ZH bm a4;have bv:=O a;clear a
 go_upto_region 9 with(refine wpList_copy_splice rfl (.tmp 22) (.tmp 23) 32 32 rfl 5 jp rfl (T ⟨E,0,hF⟩) p 64 128 n c ag ag E 0 x 5 bw RB (by rw[a4];exact(Nat.min_eq_left Y).symm) (λh=>⟨rfl,_,br.out (by rw[<-a4];exact h),bl⟩) bm ZH E W8 (js _ _) (jh _) ?_;intro C s H)
 have a:bj C E 5 (splice (jR 128 0) 0 (l.drop (64*k))):=by
  show C.heap[E]?=_;rw[s,d,bv];simp[splice,nE,sq,List.map_drop]
 have H9:=O a;have r:=O H;have bb:(splice (jR 128 (0:BitVec 8)) 0 (l.drop (64*k))).length=128:=by rw[length_splice _ _ _ (by rw[F];simp;omega)];simp
 have c9:=a.cell (i:=n) (by rw[bb];omega);have f9:=a.frozen n;clear a s H bb
 go_upto_if 31 with(fail)
 have a:bj (C.setCell ⟨E,n,hF⟩ (N ji 128)) E 5 (lL l):=by rw[bq];exact H9.set n 0x80
 have s:aF (C.setCell ⟨E,n,hF⟩ (N ji 128)) (D+1) 274 y:=(jX _ _ _ _ (by show D+1≠E;omega)).trans ((r.block _ Y).trans Rs);have H:aD (D+1) (D+2) W2 (C.setCell ⟨E,n,hF⟩ (N ji 128)):=Qg.trans (aD.of_below (g:=D+1) (r.setCell (jh E) _)) bs;have bb:E<(C.setCell ⟨E,n,hF⟩ (N ji 128)).heap.size:=by have:=r.size;have:=bu.out;simp;omega
 obtain⟨bM,bA⟩:=J (C.setCell ⟨E,n,hF⟩ (N ji 128));rw[<-bA]at a s H bb⊢;have bn:=O a;have bB:=O s;have Y4:=O H;have bC:=O bb;clear a s H bb bA c9 f9 H9 r a4 bm ZH bw bl bv
 go_cut [6] (λv m=>v=jc (T ⟨E,0,hF⟩) (gV l.length) 128/\bM=m)
 case first=>
  by_cases r:55<n
  ·have a:=ap (55<(n:Int))
   rw[a];have s:∀W,(Instr.sliceAt 32 (jc (T ⟨E,0,hF⟩) 64 128) hF (T (N ih 128)) hF).run hQ W=.ok (jc (T ⟨E,0,hF⟩) 128 128) W:=
    rH (P:=hQ) 32 5 jp gg E 0 64 128 128 Y Y
   go_wp2_with fail
   go_meet
   exact⟨by rw[z,if_pos r],rfl⟩
  have a:=ar (55<(n:Int));rw[a]
  go_wp2_with fail
  go_meet
  exact⟨by rw[z,if_neg r],rfl⟩
 obtain⟨rfl,rfl⟩:=hcut;have H:gV l.length=64\/gV l.length=128:=by rw[z];split<;>simp
 have a:mB l=gT (lL l) (gV l.length-8) 8 (jB 64 (l.length*8)) 8:=rfl;have s:=O a;have QC:=O (Oy l);have bl:=O (A7 l);clear a z bq;generalize gV l.length=a at H s PP⊢;generalize mB l=r at PP s QC;generalize lL l=ea at s bn bl;have bA:64<=a:=Y;have bw:a<=128:=Y;have bq:∀W,(Instr.sliceAt 32 (jc (T ⟨E,0,hF⟩) a 128) (T (N ih ((a:Int)-8))) hF hF).run hQ W=.ok (jc (T ⟨E,a-8,hF⟩) 8 (128-(a-8))) W:=λW=>by
  have h:=tL (P:=hQ) 32 5 jp gg E 0 a 128 (a-8) Y Y W;rw[show((a-8:Nat):Int)=(a:Int)-8 by omega,show a-(a-8)=8 by omega,jL]at h;exact h
 have bb:=O H;clear H
 go_wp2_with fail
 refine(Kb E (a-8) (128-(a-8)) 5 ea l.length Y _ bn.out (by rw[bl];omega) Y).mono ?_;rintro e H ⟨rfl,z,bm⟩;rw[<-s]at bm;have Wb:=O bm;have T5:hZ (aF H (D+1) 274 (fs y r 0)):=(z.block _ Y).trans bB;have Pk:hZ (aD (D+1) (D+2) W2 H):=Y4.trans (aD.of_below (g:=D+1) (z.below (jh E))) bs;have bv:E<H.heap.size:=by have:=z.size;have:=bC.out;omega
 have a4:=O bv;clear z bm bv bq bn bB Y4 bC s bl Rs Qg bu d br F ba HA
 go_wp2_with fail
 go_loopw [6] (λv m=>∃(k n c:Nat) (p:Option jt),v=jc p n c/\n<=c/\hZ (64*k<=a/\n=a-64*k/\(0<n->p=T ⟨E,64*k,hF⟩))/\hZ (aF m (D+1) 274 (fs y r k))/\hZ (aD (D+1) H.heap.size H m)) (λv _=>lenOf v)
 case atStart=>exact⟨0,a,128,T ⟨E,0,hF⟩,rfl,bw,⟨by omega,by omega,λ_=>rfl⟩,T5,aD.refl _ _ _⟩
 obtain⟨d,s,z,p2,rfl,bl,P8,ba,F⟩:=hrel
 by_cases Qe:0<s
 ·have bn:=ap (0<(s:Int))
  go_upto_region 15 with fail
  obtain⟨q1,q2,V⟩:=P8.out;obtain rfl:p2=T ⟨E,64*d,hF⟩:=V Y;have aa:=yG r d (by rw[QC];have:=bb.out;omega);have bm:64<=s:=aw bb;have ad:∀j,j<64->wr.cell? ⟨E,64*d+j,hF⟩=T (N ji (((r.drop (64*d)).take 64).getD j 0).toNat):=λj f=>by
   have h1:bj wr E 5 r:=(F.block _ a4.out Y).trans Wb;rw[Df r d j f];exact h1.cell (by rw[QC];omega)
  have Qq:=O ad;have bd:=O aa;have br:D+1<H.heap.size:=aw a4;have al:dH wr:=HN.below (B.trans ((Pk.below Y Y).trans (F.below Y Y))) (aw WB);have bf:=O al;have bg:=O (rX y r d a5);have bK:∀W,(Instr.sliceAt 32 (jc (T ⟨E,64*d,hF⟩) s z) hF (T (N ih 64)) hF).run hQ W=.ok (jc (T ⟨E,64*d,hF⟩) 64 z) W:=
   rH (P:=hQ) 32 5 jp gg E (64*d) s z 64 Y Y
  obtain⟨p',au,t⟩:=C2 (P:=hQ) 32 5 jp gg E (64*d) s z 64 bm bl;have bh:=O au;replace t:∀W,(Instr.sliceAt 32 (jc (T ⟨E,64*d,hF⟩) s z) (T (N ih 64)) hF hF).run hQ W=.ok (jc p' (s-64) (z-64)) W:=t;clear ad aa al au V q1 q2
  go_wp2_with fail
  refine(Bl (D+1) E (64*d) 64 z _ _ bg.out bd (jh _) Y _ ba.out Qq bf).mono ?_;rintro e w' ⟨rfl,u,a1⟩;have a2:=O u;have bk:=O (F.trans a1 F.size);clear u a1
  go_wp2
  go_roundw
  case rel=>
   have q:=P8.out;refine⟨d+1,s-64,z-64,p',rfl,by omega,⟨by omega,by omega,λh=>?_⟩,a2,bk⟩;rw[bh h];congr 2
  case measure=>simp[lenOf];omega
 obtain rfl:s=0:=Y;have V:d=a/64:=by have:=P8.out;have:=bb.out;omega
 have f:hZ (aF wr (D+1) 274 (fs y r (a/64))):=V▸ba;have q:=O (rX y r (a/64) a5);clear ba V Qe;generalize fs y r (a/64)=V at f q PP;have aa:bj wr D 23 (dw V 0):=(F.block _ (aw a4) Y).trans ((Pk.block _ Y Y).trans HD);have ad:ic D w wr:=B.trans ((Pk.below Y Y).trans (F.below Y (aw a4)));have al:=O aa;have au:=O ad;clear aa ad F Pk HD B P8 Wb T5 bb QC a4 bc a5
 go_upto_region 16 with fail
 refine j1 ?_;refine j3 rfl 274 _ rfl (D+1) rfl 274 (V.map v32).toArray (0,0) _ f.out underlying274 rfl (by rw[jI,jK,q];rfl) ?_;have B:∀(k:Nat) (hk:k<8) (W:A),(Instr.index 274 (jw (V.map v32).toArray) (N ih (k:Int))).run hQ W=.ok (N ja ((V.getD k 0).toNat:Int)) W:=λk hk W=>I7 V q k hk W
 generalize(V.map v32).toArray=ba at B⊢;have YX:=O B;clear B f;obtain⟨B,rfl⟩:∃B:A,B=wr:=⟨_,rfl⟩
 go_wp2_with fail
 go_loopw [54] (λf m=>∃i:Nat,f=N ih i/\i<=8/\hZ (bj m D 23 (dw V i))/\hZ (aM D B m)) (λf _=>(8-jg f).toNat)
 case atStart=>exact⟨0,rfl,by omega,al,aM.refl _ _⟩
 obtain⟨i,rfl,hi,f,aa⟩:=hrel
 by_cases VX:i<8
 ·have ad:=YX i VX
  have m:dw V (i+1)=gT (dw V i) (4*i) 4 ((V.getD i 0).setWidth 64) 4:=rfl;have F:=O m;have a1:=O (zC V i);have bq:∀W,(Instr.sliceAt 23 (jr (T ⟨D,0,hF⟩)) (T (N ih (4*(i:Int)))) (T (N ih (4*(i:Int)+4))) hF).run hQ W=.ok (jc (T ⟨D,4*i,hF⟩) 4 (32-4*i)) W:=λW=>by
   have h:=FU (P:=hQ) 23 5 32 j9 gg D 0 (4*i) (4*i+4) Y Y Y W;rw[show 4*i+4-4*i=4 by omega,jL]at h
   simpa using h
  clear m;generalize V.getD i 0=m at ad F;have a4:=ap ((i:Int)<8)
  go_wp2_with fail
  refine(M5 D (4*i) (32-4*i) 23 (dw V i) m _ f.out (by rw[a1];omega) Y).mono ?_;rintro e w' ⟨rfl,h,u⟩;rw[<-F]at u;have a2:=O u;have a5:=O (aa.trans h);clear h u
  go_wp2
  go_roundw
  case rel=>exact⟨i+1,by go_num,by omega,a2,a5⟩
  case measure=>simp[jg];omega
 have a4:=ar ((i:Int)<8);have h:i=8:=Y;have ad:hZ (bj wr D 23 (cT l)):=by rw[PP];exact h▸f
 clear f h;have m:wr.heap[D]?=T (hU ((cT l).map v8).toArray 23 (0,0)):=ad.out;have t:((cT l).map v8).toArray.size=32:=by rw[jI,jK,kL]
 have u:((cT l).map v8).toArray.all (·.oneCell')=true:=by
  rw[jY];intro a3 f;exact gs _ a3 (by simpa using f)
 have f:ic w w wr:=by rw[<-WB];exact au.trans (aa.below (jh _))
 have Qm:=O f;clear f;generalize h:((cT l).map v8).toArray=f at m t u;have HQ:=O h;clear h;have h:=O m;have F:=O t;have PZ:=O u;clear m t u
 go_upto_region 21 with fail
 refine j1 ?_;refine j3 rfl 23 _ rfl D rfl 23 f (0,0) _ h.out j9 rfl (by rw[F];rfl) ?_;refine qc rfl λ_ m=>qd 23 _ _ rfl D f rfl rfl 23 f h.out (by rw[F];rfl) rfl PZ (m _ _ ?_)
 rw[dq h]
 go_wp2_with fail
 refine kw (v:=jw f) ?_ rfl ?_
 ·exact qe rfl _ _ _ 23 _ (0,0) _ rfl h j9 rfl (by rw[F];rfl)
 exact⟨by rw[HQ],Qm⟩
theorem B4:(hQ.info? 23).map (·.size)=T 32:=by kernel_rfl
theorem uS(w:A)(c a:Array hH)(d:c.size=32)(b:a.size=32)(e:a.all (·.oneCell')=true):
 (storeCells ⟨w,0,hF⟩ a.toList 0).run hQ (w.alloc (hU c 23))=.ok () (w.alloc (hU a 23)):=
 run_storeCells_new w _ c a (by rw[B4,b]) (by rw[d,b]) e
def fC:LBy:=[116,97,103]
def cg(t l:LBy):LBy:=cT (cT t++l)
theorem gh(t l):(cg t l).length=32:=kL _
theorem bj.lt'{W:A}{g:Nat}{t:je}{v:LBy}(h:bj W g t v):g<W.heap.size:=(jy.1 h).1
theorem dH.lt{w:A}(h:dH w):3<w.heap.size:=iW (h.cell 0 G)
theorem fw.below{w w':A}{B:Nat}(h:fw w)(a:ic B w w')(b:w.heap.size<=B):fw w':=(Lib.tabBelow_of_tabIs h) _ (a.mono b)
def oO:ByteArray:=⟨#[116,97,103]⟩
def mE(w:A):A:=Lib.bytesWorld w 5 oO
def tV(w:A):Nat:=grownCap w 3 0 5
theorem Fp(w:A):(convert 9 32 (ki ⟨#[116,97,103]⟩)).run hQ w=.ok (jc (T ⟨w,0,hF⟩) 3 (tV w)) (mE w):=
 Lib.run_convert_string_bytes (P:=hQ) w 9 32 5 oO kl jp qa
theorem GF(w:A):BytesAt (mE w) (jc (T ⟨w,0,hF⟩) 3 (tV w)) fC:=by
 refine⟨_,_,rfl,grownCap_ge w 3 0 5,λh=>(by cases h),λ_=>⟨w.heap.size,0,rfl,λj a=>?_⟩⟩;have h:=Lib.bytesWorld_cell w 5 oO j a;rw[jL];refine h.trans ?_
 match j,a with
 |0,_=>rfl
 |1,_=>rfl
 |2,_=>rfl
theorem Es(w:A)(B:Nat)(a:B<=w.heap.size):ic B w (mE w):=by
 refine⟨rfl,rfl,rfl,?_,λk hk=>Lib.bytesWorld_at_old w 5 oO k Y⟩;have:=Lib.bytesWorld_size w 5 oO;unfold mE;omega
theorem Fg(v:hH)(l:LBy)(W:l.length<=900000)(w:A)(y:BytesAt w v l)(a:dH w)(b:fw w):
 jd hQ 90 #[ki ⟨#[116,97,103]⟩,v] w λe w'=>e=jb (jw ((cg fC l).map v8).toArray)/\ic w w w':=by
 have q:=Fp;have M:=O y;obtain⟨n,o,rfl,-,-,-⟩:=y;have z:=O a;have B:=O b;clear a b
 go_enter func90,ntmps90
 go_wp2_with fail
 have a:ic w w (w.alloc (hU aI 23)):=(js _ w).alloc (jh _) _;have f:bj (w.alloc (hU aI 23)) w.heap.size 23 (dw [] 0):=jn w _;have g:(w.alloc (hU aI 23)).heap.size=w.heap.size+1:=by simp
 obtain⟨c,j⟩:=J (w.alloc (hU aI 23));rw[<-j]at a f g⊢;have b:=GF c;have h:ic w w (mE c):=a.trans (Es c _ Y);have i:bj (mE c) w.heap.size 23 (dw [] 0):=f.below (Es c _ (jh _)) Y;rw[g]at b;obtain⟨C,k⟩:=J (tV c);rw[<-k]at b⊢;obtain⟨X,p⟩:=J (mE c);rw[<-p]at b h i⊢;have d:=O h;have m:=O i;clear a f g j k p h i q;refine(rh _ fC G _ b (z.below d (jh _)) (B.below d (jh _))).mono ?_;rintro e w' ⟨rfl,p⟩;have x:bj w' w.heap.size 23 (dw [] 0):=m.below p m.lt';have h:=O x;have q:=ac d p;have i:((cT fC).map v8).toArray.size=32:=by rw[jI,jK,kL]
 have j:((cT fC).map v8).toArray.all (·.oneCell')=true:=by
  rw[jY];intro r s;exact gs _ r (by simpa using s)
 have t:cg fC l=cT (cT fC++l):=rfl;have u:=kL fC;generalize cT fC=a at i j t u⊢;have k:=O u;have P:=O t;generalize f:(a.map v8).toArray=g at i j⊢;have D:=O f;have E:=O j;clear f j p x b t u;have b:=uS w' aI g rfl i E;clear m d
 go_upto_region 2 with fail
 clear b;have d:bj (w'.alloc (hU g 23)) w'.heap.size 23 a:=by
  show _ =T (Obj.cells (a.map v8).toArray 23 (0,0));rw[D];exact jn w' _
 have j:ic w w (w'.alloc (hU g 23)):=q.alloc q.size _;have p:bj (w'.alloc (hU g 23)) w.heap.size 23 (dw [] 0):=(jk _ _ _ h.lt').trans h;have Q:w.heap.size≠w'.heap.size:=by have:=h.lt';omega
 obtain⟨m,x⟩:=J w'.heap.size;rw[<-x]at d Q⊢;obtain⟨b,F⟩:=J (w'.alloc (hU g 23));rw[<-F]at d j p⊢;have R:=O d;have t:=O j;have u:=O p;clear d j p F x q h D E i;have d:BytesAt b (jc (T ⟨m,0,hF⟩) 32 32) a:=by
  refine⟨_,32,by rw[k],by rw[k];exact jh _,λh=>(by cases h),λ_=>⟨m,0,rfl,λj i=>?_⟩⟩;rw[jL];exact R.cell i
 have h:BytesAt b (jc n l.length o) l:=M.below t;have S:=O d;have U:=O h;clear d h
 go_wp2_with fail
 have d:ic b b (b.alloc (hU #[jc (T ⟨m,0,hF⟩) 32 32,jc n l.length o] 32)):=(js _ _).alloc (jh _) _;have j:=O d;clear d;refine(rU b.heap.size 2 32 [jc (T ⟨m,0,hF⟩) 32 32,jc n l.length o] [a,l] rfl rfl (by have:=k.out;simp;omega) _ (jn b _) ?_ G).mono ?_
 ·intro i d
  match i,d with
  |0,_=>exact S.below j
  |1,_=>exact U.below j
 rintro e i ⟨D,rfl,d,q⟩;have x:[a,l].flatten=a++l:=by simp
 rw[x]at d;have h:ic b b i:=j.trans (q.mono av);have E:BytesAt i D (a++l):=BytesAt.of_own d;have F:ic w w i:=t.trans (h.mono t.size);have p:=O F;have H:=O h;clear d q h F x
 go_wp2_with fail
 refine(rh D (a++l) (by have:=k.out;simp;omega) _ E (z.below p (jh _)) (B.below p (jh _))).mono ?_;rintro e h ⟨rfl,d⟩;have F:bj h w.heap.size 23 (dw [] 0):=(u.below H u.lt').below d (by have:=u.lt';have:=H.size;omega);have K:=O F;have V:=ac p d;rw[<-P];have q:((cg fC l).map v8).toArray.size=32:=by rw[jI,jK,gh]
 have x:((cg fC l).map v8).toArray.all (·.oneCell')=true:=by
  rw[jY];intro r s;exact gs _ r (by simpa using s)
 clear d F E;generalize f:((cg fC l).map v8).toArray=d at q x⊢;have s:=O f;have r:=O q;have E:=O x;clear f q x
 go_wp2_with (refine qc rfl λ_ f=>qd 23 _ _ rfl w.heap.size d rfl rfl 23 _ K.out (by rw[r];rfl) (by rw[r];simp[dw]) E (f _ _ ?_))
 have f:(h.setRow w.heap.size d).heap[w.heap.size]?=T (hU d 23 (0,0)):=setRow_heap _ _ _ _ _ _ K.out;have q:ic w w (h.setRow w.heap.size d):=below_setRow V (jh _) _;generalize h.setRow w.heap.size d=w8 at f q⊢;have x:=O q;have F:=O f;clear f q
 go_wp2_with fail
 refine kw (v:=jw d) ?_ rfl ?_
 ·exact qe rfl _ _ _ 23 _ (0,0) _ rfl F j9 rfl (by rw[r];rfl)
 exact⟨by rw[s],x⟩
inductive Val where
 |mk (k n:Int) (s:ByteArray) (l:List Val)
def Val.k:Val->Int| .mk k _ _ _=>k
def Val.n:Val->Int| .mk _ n _ _=>n
def Val.s:Val->ByteArray| .mk _ _ s _=>s
def Val.l:Val->List Val| .mk _ _ _ l=>l
abbrev emS:ByteArray:=⟨#[]⟩
def aK(s:ByteArray):LBy:=s.data.toList.map UInt8.toBitVec
def ofB(l:LBy):ByteArray:=⟨(l.map UInt8.ofBitVec).toArray⟩
theorem m9(l:LBy):aK (ofB l)=l:=by
 have e:(UInt8.toBitVec∘UInt8.ofBitVec)=id:=funext λb=>rfl
 simp[aK,ofB,e]
theorem ww(s:ByteArray):ofB (aK s)=s:=by
 obtain⟨d⟩:=s;have e:(UInt8.ofBitVec∘UInt8.toBitVec)=id:=funext λb=>rfl
 simp[aK,ofB,e]
theorem et(s:ByteArray):(aK s).length=s.size:=by
 obtain⟨d⟩:=s;simp[aK,ByteArray.size]
def lA:Nat->Nat->LBy
 |0,_=>[]
 |f+1,a=>if a<128 then [jB 8 a]else jB 8 (a%128+128)::lA f (a/128)
theorem DK:∀(f g a:Nat),a<f->a<g->lA f a=lA g a
 |0,_,_,h,_=>absurd h (sv _)
 |_,0,_,_,h=>absurd h (sv _)
 |f+1,g+1,a,b,c=>by
  rw[lA,lA]
  by_cases h:a<128
  ·rw[if_pos h,if_pos h]
  rw[if_neg h,if_neg h,DK f g (a/128) Y Y]
def aX(a:Nat):LBy:=lA (a+1) a
def eT(n:Int):Nat:=if 0<=n then 2*n.toNat else 2*(-(n+1)).toNat+1
def fI(a:Nat):Int:=if a%2=0 then((a/2:Nat):Int)else -((a/2:Nat):Int)-1
theorem A8(n:Int):fI (eT n)=n:=by
 unfold fI eT
 by_cases h:0<=n
 ·rw[if_pos h,if_pos Y];omega
 rw[if_neg h,if_neg Y];omega
mutual
def enc:Val->LBy
 | .mk k n s l=>if k=1 then 1#8::aX (eT n)else if k=2 then 2#8::(aX s.size++aK s)else 3#8::(aX l.length++encs l)
def encs:List Val->LBy
 |[]=>[]
 |x::xs=>enc x++encs xs
end
theorem oP(a b:List Val):encs (a++b)=encs a++encs b:=by
 induction a with
 |nil=>simp[encs]
 |cons x a c=>simp[encs,c]
def wfV:Nat->Val->Prop
 |f,.mk k n s l=>(k=1/\ -9223372036854775808<=n/\n<9223372036854775808/\s=emS/\l=[])\/(k=2/\n=0/\s.size<4611686018427387904/\l=[])\/
  (k=3/\n=0/\s=emS/\l.length<4611686018427387904/\match f with|0=>False|f+1=>∀x∈l,wfV f x)
def bG:Nat->Nat->LBy->Option (Nat×LBy)
 |_,_,[]=>hF
 |f,i,b::l=>if(i=0\/b≠0#8)/\(i<9\/b.toNat<=1)then(if b.toNat<128 then T (b.toNat,l)else
  match f with
  |0=>hF
  |f+1=>(bG f (i+1) l).map λr=>(b.toNat%128+128*r.1,r.2))else hF
def dE(g:LBy->Option (Val×LBy)):Nat->LBy->Option (List Val×LBy)
 |0,l=>T ([],l)
 |n+1,l=>(g l).bind λr=>(dE g n r.2).map λq=>(r.1::q.1,q.2)
def dT(l:LBy):Option (Nat×LBy):=(bG 9 0 l).bind λr=>if r.1<=r.2.length then T r else hF
def bV:Nat->LBy->Option (Val×LBy)
 |_,[]=>hF
 |f,b::l=>
  if b=1#8 then(bG 9 0 l).map λr=>(.mk 1 (fI r.1) emS [],r.2)
  else if b=2#8 then(dT l).map λr=>(.mk 2 0 (ofB (r.2.take r.1)) [],r.2.drop r.1)
  else if b=3#8 then match f with
   |0=>hF
   |f+1=>(dT l).bind λr=>(dE (bV f) r.1 r.2).map λq=>(.mk 3 0 emS q.1,q.2)
  else hF
def dec(l:LBy):Option Val:=(bV 16 l).bind λr=>if r.2=[]then T r.1 else hF
theorem iN{a:Nat}(h:a<128):aX a=[jB 8 a]:=by unfold aX;rw[lA,if_pos h]
theorem mU{a:Nat}(h:¬a<128):aX a=jB 8 (a%128+128)::aX (a/128):=by unfold aX;rw[lA,if_neg h,DK a (a/128+1) (a/128) Y Y]
theorem Nf(a:Nat):0<(aX a).length:=by
 by_cases h:a<128
 ·rw[iN h];simp
 rw[mU h];simp
theorem AN(r:LBy):∀(f i a:Nat),i+f=9->a<128^(f+1)->(i=0\/0<a)->(f=0->a<=1)->a*2^(7*i)<2^64->bG f i (aX a++r)=T (a,r)
 |f,i,a,q,s,c,h,k=>by
  by_cases d:a<128
  ·rw[iN d]
   have b:(jB 8 a).toNat=a:=by rw[mz];omega
   have g:i=0\/jB 8 a≠0#8:=by
    rcases c with c|c
    ·exact .inl c
    exact .inr λe=>by rw[e]at b;simp at b;omega
   have j:i<9\/a<=1:=by
    by_cases l:i<9
    ·exact .inl l
    exact .inr (h Y)
   cases f<;>simp only[jP,ms,bG,b,if_pos d,if_pos (And.intro g j)]
  rw[mU d];have b:(jB 8 (a%128+128)).toNat=a%128+128:=by rw[mz];omega
  have g:jB 8 (a%128+128)≠0#8:=λe=>by rw[e]at b;simp at b
  cases f with
  |zero=>exact absurd (h rfl) Y
  |succ f=>
   have t:128^(f+1+1)=128^(f+1)*128:=ol ..;have l:a/128<128^(f+1):=by rw[Nat.div_lt_iff_lt_mul Y];omega
   have hk:2^(7*(i+1))=2^(7*i)*128:=by rw[show 7*(i+1)=7*i+7 by omega,qm]
   have m:a/128*128<=a:=Nat.div_mul_le_self _ _;have j:a/128*2^(7*(i+1))<2^64:=by
    rw[hk,jT (2^(7*i)) 128,<-qn];exact r3 (Nat.mul_le_mul_right _ m) k
   have n:f=0->a/128<=1:=λe=>by
    subst e;have:i=8:=Y;subst this;have:a/128*2^(7*9)<2^64:=j;omega
   have o:=AN r f (i+1) (a/128) Y l (.inr Y) n j;have p:¬a%128+128<128:=Y;simp only[jP,bG,b,if_neg p];rw[if_pos ⟨.inr g,.inl Y⟩,o];simp only[qO]
   congr 2
   omega
theorem wk(a:Nat)(b:a<2^64)(r:LBy):bG 9 0 (aX a++r)=T (a,r):=by
 refine AN r 9 0 a rfl (Nat.lt_trans b G) (.inl rfl) (λh=>absurd h G) (by simpa using b)
theorem oR(n:Int)(a: -9223372036854775808<=n)(b:n<9223372036854775808):eT n<2^64:=by
 unfold eT;split<;>omega
theorem vH(a:Nat)(b:a<4611686018427387904)(r:LBy)(c:a<=r.length):dT (aX a++r)=T (a,r):=by
 unfold dT;rw[wk a (Nat.lt_trans b G),qP,if_pos c]
theorem An(x:Val):0<(enc x).length:=by
 obtain⟨k,n,s,l⟩:=x;rw[enc];split
 ·simp
 split<;>simp
theorem nS(l:List Val):l.length<=(encs l).length:=by
 induction l with
 |nil=>simp
 |cons x l a=>have:=An x;simp[encs];omega
theorem Af{g:LBy->Option (Val×LBy)}(r:LBy):∀(l:List Val),(∀x∈l,∀r,g (enc x++r)=T (x,r))->dE g l.length (encs l++r)=T (l,r)
 |[],_=>rfl
 |x::l,h=>by
  simp only[encs,p6,j5,dE];rw[h x (List.mem_cons_self ..),qP,Af r l (λy a=>h y (List.mem_cons_of_mem _ a))]
  rfl
theorem IQ:∀(f:Nat) (x:Val),wfV f x->∀r,bV f (enc x++r)=T (x,r):=by
 intro f
 induction f with
 |zero=>
  rintro⟨k,n,s,l⟩ h r;rw[wfV]at h
  rcases h with⟨rfl,a,b,rfl,rfl⟩|⟨rfl,rfl,a,rfl⟩|⟨-,-,-,-,h⟩
  ·rw[enc,if_pos rfl,jP,bV,if_pos rfl,wk _ (oR n a b)]
   simp[A8]
  ·rw[enc,if_neg G,if_pos rfl,jP,bV,if_neg G,if_pos rfl,p6,vH _ a _ (by rw[n0,et];omega)]
   have e:=et s;simp only[qO];rw[sx e,tx e,ww]
  exact h.elim
 |succ f c=>
  rintro⟨k,n,s,l⟩ h r;rw[wfV]at h
  rcases h with⟨rfl,a,b,rfl,rfl⟩|⟨rfl,rfl,a,rfl⟩|⟨rfl,rfl,rfl,a,h⟩
  ·rw[enc,if_pos rfl,jP,bV,if_pos rfl,wk _ (oR n a b)]
   simp[A8]
  ·rw[enc,if_neg G,if_pos rfl,jP,bV,if_neg G,if_pos rfl,p6,vH _ a _ (by rw[n0,et];omega)]
   have e:=et s;simp only[qO];rw[sx e,tx e,ww]
  rw[enc,if_neg G,if_neg G,jP,bV,if_neg G,if_neg G,if_pos rfl,p6];have e:=nS l;rw[vH _ a _ (by rw[n0];omega)];simp only[qP];rw[Af r l (λx d=>c x (h x d))]
  rfl
theorem CP(x:Val)(h:wfV 16 x):dec (enc x)=T x:=by
 have:=IQ 16 x h [];rw[q6]at this;unfold dec;rw[this]
 rfl
structure Chg where
 k:Int
 d:Int
 p:Int
 v:Int
 c:Int
structure Bx where
 node:Int
 lev:Int
 u:Int
 body:LBy
structure Wl where
 dev:Int
 u:Int
 body:LBy
structure Cmt where
 folder:Int
 epoch:Int
 parent:LBy
 author:Int
 chg:List Chg
 path:List Int
 box:List Bx
 wel:List Wl
 confirm:LBy
 r:Int
 s:Int
structure Mem where
 dev:Int
 since:Int
 ver:Int
structure Grp where
 folder:Int
 epoch:Int
 last:LBy
 mem:List Mem
 tree:List (Int×Int)
def vI(n:Int):Val:=.mk 1 n emS []
def vT(b:LBy):Val:=.mk 2 0 (ofB b) []
def vL(l:List Val):Val:=.mk 3 0 emS l
def Chg.val(x:Chg):Val:=vL [vI x.k,vI x.d,vI x.p,vI x.v,vI x.c]
def Bx.val(x:Bx):Val:=vL [vI x.node,vI x.lev,vI x.u,vT x.body]
def Wl.val(x:Wl):Val:=vL [vI x.dev,vI x.u,vT x.body]
def aA(c:Cmt):List Val:=
 [vI c.folder,vI c.epoch,vT c.parent,vI c.author,vL (c.chg.map Chg.val),vL (c.path.map vI),vL (c.box.map Bx.val),vL (c.wel.map Wl.val),vT c.confirm,vI c.r,vI c.s]
def dU(s:ByteArray)(w:A):A:=Lib.bytesWorld w 5 s
def fJ(s:ByteArray)(w:A):Nat:=grownCap w s.size 0 5
theorem ti(s:ByteArray)(w:A):(convert 9 32 (ki s)).run hQ w=.ok (jc (T ⟨w,0,hF⟩) s.size (fJ s w)) (dU s w):=
 Lib.run_convert_string_bytes (P:=hQ) w 9 32 5 s kl jp qa
theorem rx(s:ByteArray)(w:A):BytesAt (dU s w) (jc (T ⟨w,0,hF⟩) s.size (fJ s w)) (aK s):=by
 refine⟨_,_,by rw[et],by rw[et];exact grownCap_ge w s.size 0 5,(λh=>(by cases h)),λ_=>⟨w.heap.size,0,rfl,λj a=>?_⟩⟩;rw[et]at a;have h:=Lib.bytesWorld_cell w 5 s j a;rw[jL];refine h.trans ?_
 congr 3
 have b:j<s.data.toList.length:=by simpa using a
 simp only[aK,jz,qN];rw[uy b]
 rfl
theorem pM(s:ByteArray)(w:A)(B:Nat)(a:B<=w.heap.size):ic B w (dU s w):=by
 refine⟨rfl,rfl,rfl,?_,λk hk=>Lib.bytesWorld_at_old w 5 s k Y⟩;have:=Lib.bytesWorld_size w 5 s;unfold dU;omega
theorem ot(s:ByteArray)(X:s.size<=100000)(v:hH)(l:LBy)(hl:l.length<=900000)(w:A)(z:BytesAt w v l)(a:dH w)(b:fw w):
 jd hQ 90 #[ki s,v] w λe w'=>e=jb (jw ((cg (aK s) l).map v8).toArray)/\ic w w w':=by
 have q:=ti s;have P:=O z;obtain⟨n,o,rfl,-,-,-⟩:=z;have B:=O a;have D:=O b;clear a b
 go_enter func90,ntmps90
 go_wp2_with fail
 have d:ic w w (w.alloc (hU aI 23)):=(js _ w).alloc (jh _) _;have f:bj (w.alloc (hU aI 23)) w.heap.size 23 (dw [] 0):=jn w _;have g:(w.alloc (hU aI 23)).heap.size=w.heap.size+1:=by simp
 obtain⟨c,k⟩:=J (w.alloc (hU aI 23));rw[<-k]at d f g⊢;have a:=rx s c;have h:ic w w (dU s c):=d.trans (pM s c _ Y);have i:bj (dU s c) w.heap.size 23 (dw [] 0):=f.below (pM s c _ (jh _)) Y;rw[g]at a;have H:=et s;obtain⟨C,m⟩:=J (fJ s c);rw[<-m]at a⊢;obtain⟨W2,p⟩:=J (dU s c);rw[<-p]at a h i⊢;have b:=O h;have j:=O i;clear d f g k m p h i q;have x:=a;clear a;refine(rh _ (aK s) (by rw[et];omega) _ x (B.below b (jh _)) (D.below b (jh _))).mono ?_;rintro e w' ⟨rfl,m⟩;have y:bj w' w.heap.size 23 (dw [] 0):=j.below m j.lt';have d:=O y;have p:=ac b m;have h:((cT (aK s)).map v8).toArray.size=32:=by rw[jI,jK,kL]
 have i:((cT (aK s)).map v8).toArray.all (·.oneCell')=true:=by
  rw[jY];intro q r;exact gs _ q (by simpa using r)
 have t:cg (aK s) l=cT (cT (aK s)++l):=rfl;have u:=kL (aK s);generalize cT (aK s)=a at h i t u⊢;have k:=O u;have Q:=O t;generalize f:(a.map v8).toArray=g at h i⊢;have E:=O f;have F:=O i;clear f i m y x t u H;have i:=uS w' aI g rfl h F;clear j b
 go_upto_region 2 with fail
 clear i;have i:bj (w'.alloc (hU g 23)) w'.heap.size 23 a:=by
  show _ =T (Obj.cells (a.map v8).toArray 23 (0,0));rw[E];exact jn w' _
 have j:ic w w (w'.alloc (hU g 23)):=p.alloc p.size _;have t:bj (w'.alloc (hU g 23)) w.heap.size 23 (dw [] 0):=(jk _ _ _ d.lt').trans d;have R:w.heap.size≠w'.heap.size:=by have:=d.lt';omega
 obtain⟨m,y⟩:=J w'.heap.size;rw[<-y]at i R⊢;obtain⟨b,H⟩:=J (w'.alloc (hU g 23));rw[<-H]at i j t⊢;have S:=O i;have u:=O j;have x:=O t;clear i j t H y p d E F h;have d:BytesAt b (jc (T ⟨m,0,hF⟩) 32 32) a:=by
  refine⟨_,32,by rw[k],by rw[k];exact jh _,λh=>(by cases h),λ_=>⟨m,0,rfl,λj i=>?_⟩⟩;rw[jL];exact S.cell i
 have h:BytesAt b (jc n l.length o) l:=P.below u;have U:=O d;have V:=O h;clear d h
 go_wp2_with fail
 have d:ic b b (b.alloc (hU #[jc (T ⟨m,0,hF⟩) 32 32,jc n l.length o] 32)):=(js _ _).alloc (jh _) _;have j:=O d;clear d;refine(rU b.heap.size 2 32 [jc (T ⟨m,0,hF⟩) 32 32,jc n l.length o] [a,l] rfl rfl (by have:=k.out;simp;omega) _ (jn b _) ?_ G).mono ?_
 ·intro i d
  match i,d with
  |0,_=>exact U.below j
  |1,_=>exact V.below j
 rintro e i ⟨E,rfl,d,t⟩;have y:[a,l].flatten=a++l:=by simp
 rw[y]at d;have h:ic b b i:=j.trans (t.mono av);have F:BytesAt i E (a++l):=BytesAt.of_own d;have H:ic w w i:=u.trans (h.mono u.size);have p:=O H;have K:=O h;clear d t h H y
 go_wp2_with fail
 refine(rh E (a++l) (by have:=k.out;simp;omega) _ F (B.below p (jh _)) (D.below p (jh _))).mono ?_;rintro e h ⟨rfl,d⟩;have H:bj h w.heap.size 23 (dw [] 0):=(x.below K x.lt').below d (by have:=x.lt';have:=K.size;omega);have M:=O H;have W:=ac p d;rw[<-Q];have t:((cg (aK s) l).map v8).toArray.size=32:=by rw[jI,jK,gh]
 have y:((cg (aK s) l).map v8).toArray.all (·.oneCell')=true:=by
  rw[jY];intro q r;exact gs _ q (by simpa using r)
 clear d H F;generalize f:((cg (aK s) l).map v8).toArray=d at t y⊢;have F:=O f;have q:=O t;have H:=O y;clear f t y
 go_wp2_with (refine qc rfl λ_ f=>qd 23 _ _ rfl w.heap.size d rfl rfl 23 _ M.out (by rw[q];rfl) (by rw[q];simp[dw]) H (f _ _ ?_))
 have f:(h.setRow w.heap.size d).heap[w.heap.size]?=T (hU d 23 (0,0)):=setRow_heap _ _ _ _ _ _ M.out;have r:ic w w (h.setRow w.heap.size d):=below_setRow W (jh _) _;generalize h.setRow w.heap.size d=w8 at f r⊢;have t:=O r;have y:=O f;clear f r
 go_wp2_with fail
 refine kw (v:=jw d) ?_ rfl ?_
 ·exact qe rfl _ _ _ 23 _ (0,0) _ rfl y j9 rfl (by rw[q];rfl)
 exact⟨by rw[F],t⟩
section
open Go.RowKit Go.Shelf
attribute [local go_sem] Oper.semAt_some
def QS:Nat:=2305843009213688668
theorem o9:QS=2305843009213688668:=rfl
def lS(n:Nat)(b:BitVec 8):Nat:=(n*256+b.toNat)%QS
def gE(l:LBy):Nat:=l.foldl lS 0
theorem N5(n:Nat)(b:BitVec 8):lS n b<QS:=mb _ G
theorem Dx:∀(l:LBy) (n:Nat),n<QS->l.foldl lS n<QS
 |[],n,h=>h
 |b::r,n,h=>Dx r _ (N5 n b)
theorem tK(l:LBy):gE l<QS:=Dx l 0 G
theorem GQ(l:LBy)(i:Nat)(b:BitVec 8)(h:l[i]?=T b):gE (l.take (i+1))=lS (gE (l.take i)) b:=by
 obtain⟨a,e⟩:=jQ.1 h;rw[List.take_succ_eq_append_getElem a,e];simp[gE]
def mK(a l:LBy):Nat:=1+gE (cg a l)
theorem vy(a l:LBy):1<=mK a l/\mK a l<QN:=by
 have:=tK (cg a l);unfold mK;rw[o9]at this;unfold QN;omega
theorem NY(a b:Nat)(f:a<2305843009213688668)(d:b<18446744073709551616)(w:A):
 jd hQ 187 #[N hK a,N hK b,N hK 2305843009213688668] w λe w'=>
  ∃(q:Int) (r:Nat),e=jb (ju #[N hK q,N hK r])/\hZ (r=(a*18446744073709551616+b)%QS)/\ic w w w':=by
 rcases j4 a with rfl|h
 ·refine(DivS.div64_0 b d w).mono ?_
  rintro e w' ⟨q,rfl,c⟩;exact⟨q,_,rfl,O (by rw[qk,jL,o9]),c⟩
 refine(DivS.div64_1 a b h f d w).mono ?_;rintro e w' ⟨q,rfl,c⟩;exact⟨q,_,rfl,O (by rw[o9]),c⟩
def KL(a n:Nat)(w w':A):Prop:=jl w' a 148 (N hK n)/\w.heap.size<=w'.heap.size/\w'.os=w.os/\w'.tape=w.tape/\w'.output=w.output/\∀k,k<w.heap.size->k≠a->w'.heap[k]?=w.heap[k]?
theorem N4(b:BitVec 8)(n c g:Nat)(w:A)(t:n<QS)(a:jl w c 148 (N hK n))(h:jl w g 148 (N hK 2305843009213688668))(j:c≠g):
 jd hQ 221 #[v8 b,jr (T ⟨c,0,hF⟩),jr (T ⟨g,0,hF⟩)] w λe w'=>(∃v,e=jb v)/\KL c (lS n b) w w':=by
 have u:=a.cell;have v:=h.cell;have l:=b.isLt;rw[o9]at t;have o:bits .or .u64 (jm.wrap ((n:Int)*256)) (b.toNat:Int)=((n%72057594037927936*256+b.toNat:Nat):Int):=by
  have d:jm.wrap ((n:Int)*256)=((n%72057594037927936*256:Nat):Int):=by rw[jS];omega
  rw[d,qb _ _ Y Y,show n%72057594037927936*256=(n%72057594037927936)<<<8 by rw[o4],<-Nat.shiftLeft_add_eq_or_of_lt (b:=b.toNat) (i:=8) l]
 have x:(n:Int)/72057594037927936=((n/72057594037927936:Nat):Int):=Y;obtain⟨p,k⟩:=J (n/72057594037927936);obtain⟨d,q⟩:∃d:Nat,d=n%72057594037927936*256+b.toNat:=⟨_,rfl⟩;rw[<-q]at o;rw[<-k]at x;have y:=O (NY p d Y Y);have s:hZ (p*18446744073709551616+d=n*256+b.toNat):=O Y;have F:=O j;have z:=O a;have r:v8 b=N ji b.toNat:=rfl;rw[r];obtain⟨m,f⟩:=J b.toNat;rw[<-f]at l o s⊢;have B:=O f;have H:(0:Int)<=m:=Y;clear k q j a h r f
 go_enter func221,ntmps221
 go_wp2_with fail
 refine(y _).mono ?_;rintro e j ⟨q,r,rfl,C,a⟩;have h:=z.out;have f:jl j c 148 (N hK n):=(a.block _ h.lt).trans h;have D:=O a;have K:=f.cell;have M:=f.frozen;have E:=O f;clear a u v f h
 go_wp2
 refine bodyPost_end (qS rfl _ _ _) rfl ?_;refine⟨⟨_,rfl⟩,?_⟩;have f:=E.set (N hK r);have h:r=lS n b:=by unfold lS;rw[C,s,B]
 rw[h]at f⊢;have a:=D.out;refine⟨f,by rw[World.size_setCell];exact a.size,a.os,a.tape,a.output,λk hk u=>?_⟩;exact(jX _ _ _ _ u).trans (a.block k hk)
theorem MS(args:Array hH)(w:A):(ob 221 args).run hQ w=.ok (.enter 221 args) w:=by rfl
theorem FK(a:Array hH)(k:Nat)(v:hH)(hk:k<32)(b:a[k]?=T v)(W:A):
 (Instr.index 23 (jw a) (N ih (k:Int))).run hQ W=.ok v W:=by
 have c:=j9;have d:(0:Int)<=(k:Int)/\(k:Int)<((32:Nat):Int):=Y;unfold Instr.index;simp[asIntOf,qT c,part,b,hk]
theorem Np(d:LBy)(l:d.length=32)(w:A):
 jd hQ 188 #[jw (d.map v8).toArray,N hK 2305843009213688668] w λe w'=>e=jb (N hK (gE d:Nat))/\ic w w w':=by
 have S:0<d.length:=Y;have j:(d.map v8).toArray.size=32:=by rw[jI,jK,l]
 have a:∀(k:Nat) (b:BitVec 8),d[k]?=T b->∀W:A,(Instr.index 23 (jw (d.map v8).toArray) (N ih (k:Int))).run hQ W=.ok (v8 b) W:=λk b g W=>by
  have hk:=(jQ.1 g).1;exact FK _ k _ Y (by rw[List.getElem?_toArray,qN,g];rfl) W
 obtain⟨i,c⟩:=J ((d.map v8).toArray);rw[<-c]at a j⊢;have u:=O a;have n:=O l;clear c l a
 go_enter func188,ntmps188
 go_upto_region 2 with fail
 obtain⟨m,f⟩:=J (((w.alloc (hU i 23)).alloc (hU #[N hK 2305843009213688668] 148)).alloc (hU #[N hK 0] 148));obtain⟨a,c⟩:=J w.heap.size;have o:m.heap[a]?=T (hU i 23):=by
  have h:=jn w (hU i 23);rw[f,c];exact(jk _ _ _ (by simp;omega)).trans ((jk _ _ _ av).trans h)
 have q:jl m (a+1) 148 (N hK 2305843009213688668):=by
  have h:=Boxed.new (w.alloc (hU i 23)) 148 (N hK 2305843009213688668);rw[jO]at h;rw[f,c];exact h.alloc _
 have r:jl m (a+1+1) 148 (N hK (0:Nat)):=by
  have h:=Boxed.new ((w.alloc (hU i 23)).alloc (hU #[N hK 2305843009213688668] 148)) 148 (N hK (0:Nat));rw[jO,jO]at h;rw[f,c];exact h
 have h:ic a w m:=by rw[f,c];exact(((js _ w).alloc (jh _) _).alloc av _).alloc (by simp;omega) _
 have s:a+3<=m.heap.size:=by rw[f,c];simp
 rw[<-f,<-c];have x:=O c;have y:=O q;have z:=O r;have B:=O h;have C:=O s;clear f c q r h s;refine j1 ?_;refine j3 rfl 23 _ rfl a rfl 23 i (0,0) _ o j9 rfl (by rw[j];rfl) ?_;clear o j
 go_wp2_with fail
 go_loopw [10] (λt wr=>∃k:Nat,t=N ih k/\k<=32/\hZ (jl wr (a+1+1) 148 (N hK (gE (d.take k):Nat)))/\hZ (jl wr (a+1) 148 (N hK 2305843009213688668))/\hZ (ic a w wr)) (λt _=>(32-jg t).toNat)
 case atStart=>exact⟨0,rfl,by omega,O z,y,B⟩
 obtain⟨k,rfl,hk,f,h,o⟩:=hrel
 by_cases U:k<32
 ·have l:=ap ((k:Int)<32)
  obtain⟨b,g⟩:∃b,d[k]?=T b:=by
   have:=n.out;exact⟨_,uy Y⟩
  have s:=u k b g;have c:=O (N4 b (gE (d.take k)) (a+1+1) (a+1) wr (tK _) f h Y);have t:=O (GQ d k b g);have D:pr (v8 b)=true:=rfl;clear g;generalize v8 b=V at s c D;have q:=MS
  go_wp2_with fail
  refine(c).mono ?_;rintro e X ⟨⟨v,rfl⟩,j⟩;have E:=O j;clear j c q
  go_wp2_with fail
  go_roundw
  case rel=>
   obtain⟨F,H,K,M,P,q⟩:=E.out;have r:=h.out;have Q:=r.lt;have c:=o.out;refine⟨k+1,rfl,by omega,O (by rw[t];exact F),O ((q _ Q Y).trans r),O ⟨K.trans c.os,M.trans c.tape,P.trans c.output,jU c.size H,λj R=>?_⟩⟩;exact(q j (by have:=c.size;have:=C.out;omega) Y).trans (c.block j R)
  case measure=>simp only[jg];omega
 have l:=ar ((k:Int)<32);obtain rfl:k=32:=Y;have c:=f.out;rw[List.take_of_length_le (by rw[n];omega)]at c;have t:=c.cell;have D:=c.frozen;have j:=O c;clear c f
 go_wp2_with fail
 obtain⟨f,c⟩:=J (wr.setCell ⟨a+1+1,0,hF⟩ (N hK (gE d:Nat)));have q:jl f (a+1+1) 148 (N hK (gE d:Nat)):=by rw[c];exact j.set _
 have r:ic a w f:=by rw[c];exact qz o.out (p:=⟨a+1+1,0,hF⟩) (by simp;omega) _
 rw[<-c];have s:=q.cell;refine kw (v:=N hK (gE d:Nat)) (by simp[results,results188,go_sem,s]) rfl ?_;exact⟨rfl,by rw[<-x];exact r⟩
end
section
open Go.RowKit Go.Shelf
attribute [local go_sem] Oper.semAt_some
theorem Ab:(hQ.info? 3).map (λi=>(i.zero,i.size,i.bytes))=T (T (N ih 0),1,8):=by kernel_rfl
theorem dI.later{α:Type}{P:jq}{g:Nat}{lb:Array hH}{encs:α->Array hH}{a:Nat->Prop}{n₀:Nat}{S b V:List α->Prop}{w w':A}(h:dI P g lb encs a n₀ S b V w)(c:ic w w w'):dI P g lb encs a n₀ S b V w':=
 λl d e W f i j k m=>h l d e W (c.trans (f.mono c.size)) i j k m
theorem Hg{gf:Nat}{lb:Array hH}(a:∀args w,(ob gf args).run hQ w=.ok (.enter gf args) w){m:Nat->Prop}{n₀:Nat}{S F V:List Int->Prop}{w:A}
 (b:dI hQ gf lb (λx:Int=>#[N ih x]) m n₀ S F V w) (H:n₀<=w.heap.size) (q:∀k,m k->k<w.heap.size) (c:∀d,V d->d.length<=1000000) (d:Nat) (o:d<=w.heap.size) (M:∀k,m k->d<=k):
 jd hQ 215 #[jc hF 0 0,.func (.func gf) #[] lb] w λe w'=>∃v xs,e=jb v/\S xs/\w'.ownsRow w 3 1 v xs.length (xs.map (I .i64))/\ic d w w':=by
 obtain⟨P,Q,R,U,X⟩:=jV Ab;have aa:=O b;have ad:=O a;have HV:=O c;clear b a c;refine(qQ (n:=0)).1 ?_;refine wi func215 rfl trivial ?_ rfl;simp only[ntmps215,jI,j5,qs,qt,qu,qv,qw,qx,qy,ms,jP]
 gi_wp2_with fail
 obtain⟨f,a⟩:=J (w.alloc (hU #[jc hF 0 0] 25));have bN:jl f w.heap.size 25 (jc hF 0 0):=by rw[a];exact Boxed.new w _ _
 have r:ic w w f:=by rw[a];exact(js _ w).alloc (jh _) _
 have au:w.heap.size+1<=f.heap.size:=by rw[a];simp
 rw[<-a];clear a;refine nK (n:=0) (gf:=gf) (lb:=lb) rfl ad (aa.later r) Y (λ_=>rfl) (λk hk=>by have:=q k hk;omega)
  (λa Ψ W=>kK w.heap.size 25 w.heap.size 3 1 a.length (a.map (I .i64)) (λ_=>True) Ψ W/\(ic d w W/\∀k,Ψ k->d<=k))
  (λ_ _ _ _=>False)
  ((oB f.heap.size w.heap.size 25 w.heap.size 3 1 (λa=>a.length) (λa:List Int=>a.map (I .i64)) (λ_ _=>True)).and (k7 _ _ w o Y))
  (λ_=>eY _ _)
  ⟨⟨_,bN,λh=>by have:=q _ h;omega,qM _ _ _ _,by simp[qK],trivial⟩,r.mono o,M⟩
  (λx s _ _=>s={tmps:=#[jc hF 0 0,.func (.func gf) #[] lb,jr (T ⟨w,0,hF⟩),jj,jc hF 0 0,N ih x,.func (.func gf) #[] lb,N ih x,jj,jj,jj,jj,jj],defers:=[]}) (eY _ _)
  ?assign ?body ?done ?stop
 case assign=>
  intro l a x Ψ t K b _ i
  gi_wp2
  exact i _ _ (js _ _) b rfl
 case body=>
  rintro l a x Ψ s t ⟨⟨v,b,u,g,y,-⟩,c,z⟩ rfl j K a1 Vf;have al:=HV _ j;rw[n0,List.length_singleton]at al;have hc:=b.cell;have p:=O c;have a2:=c.size;clear c j
  gi_wp2_with (gi_at_builtin;refine wpListIn_append_own_at _ rfl _ _ 25 rfl w.heap.size 3 P (N ih 0) 1 8 underlying25 Q R U X rfl G _ _ _ rfl (g.alloc _) ⟨t,0,hF⟩ 1 1 [N ih x] rfl rfl (cell_one_new _ _ _) (by simp[pr]) (by unfold jF;omega) Y (by simp;omega) ?_;intro B w1 C D ZF E;obtain⟨g',a3,rfl⟩:=ownsRow_succ C;obtain⟨k,ZM⟩:=oq (B0:=f.heap.size) b G g Y (jh _) u y K C D (by intro j hj;rw[hj]at E;rcases E with h|h;exact .inl h.symm;exact .inr (by simpa using h));have j:jl w1 w.heap.size 25 v:=(b.alloc _).kept D (by have:=b.not_row (e:=3) G g;exact this);have a4:=j.cell;have a5:=j.frozen)
  obtain⟨B,j,b2,b3,b4,b5⟩:=ZM;refine⟨⟨k.1,k.2.1.mono H,k.2.2⟩,⟨B,j,b2,by simpa using b3,b4,trivial⟩,p.trans (k.2.1.mono o),z⟩
 case done=>
  rintro D xs Ψ W k j ⟨⟨v,b,u,g,y,-⟩,c,z⟩ i;have hc:=b.cell;have p:=O c;clear c
  gi_wp2
  refine⟨by simp,.inl ⟨_,_,rfl,run_takeDeferred i,?_⟩⟩;exact⟨_,results_tmp rfl _ _ _,_,xs,rfl,j,ownsRow_putObj g _ i rfl,p.trans (gZ Y)⟩
 intro D c a Ψ W _ _ h;exact h.elim
theorem Ai{gf:Nat}{lb:Array hH}(c:∀args w,(ob gf args).run hQ w=.ok (.enter gf args) w){b:Nat->Prop}{n₀:Nat}{S j V:List Int->Prop}{w:A}
 (d:dI hQ gf lb (λx:Int=>#[N ih x]) b n₀ S j V w) (f:n₀<=w.heap.size) (g:∀k,b k->k<w.heap.size) (h:∀a,V a->a.length<=1000000) (a:Nat) (l:a<=w.heap.size) (i:∀k,b k->a<=k):
 jd hQ 181 #[.func (.func gf) #[] lb] w λe w'=>∃v xs,e=jb v/\S xs/\w'.ownsRow w 3 1 v xs.length (xs.map (I .i64))/\ic a w w':=by
 have k:=O (Hg c d f g h a l i);clear c d f g h i
 go_enter func181,ntmps181
 go_wp2_with fail
 refine k.mono ?_;rintro e i ⟨v,xs,rfl,f,c,d⟩;have g:=O c;have h:=O d;clear c d
 go_wp2
 go_ret;exact⟨v,xs,rfl,f,g,h⟩
end
end Go.Proofs.YtpfafeammikibaaGreatDoor
