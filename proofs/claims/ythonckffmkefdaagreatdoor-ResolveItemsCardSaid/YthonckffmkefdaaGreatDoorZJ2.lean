/- Texts of the proof, part 2 of 7 (Vb Ka Va Rf Rg Kb Kc Kd Rt Ro Rx Ca Cb Cc Cd Ce Cf Cg Ch Ci Wa Da Db Qt Dc Dd De Wn Wh Wq Kg Mp Kh Ke Rh Ki Ks Kp). -/
import Derived.Shelf.Small.Bits
import Derived.Shelf.Small.Wraps
import Derived.Shelf.Sort.Plain
import Derived.Shelf.Bytes.WriteAt
import Derived.Shelf.Bits.Mul64
import Derived.Shelf.Slices.CompactI
import Derived.Shelf.Slices.In.SortNone
import Derived.BigGuardPart
import Derived.Deep.CutBlock
import Derived.Deep.DeepCutAuto
import Derived.RangeFuncNested
import Derived.Deep.RegionHeld3
import Derived.RangeFuncBound
import Derived.Deep.AppendLies
import Derived.Laws.AppendOwnNone
import Derived.Laws.CopyOwn
import Derived.Lib.AppendIntMem
import Derived.Great.Walk
import Derived.Deep.WholeRow
import Derived.Shelf.Bytes.SlEqualAll
import Derived.StillTail
import Derived.Lib.ConvBytes
import Derived.Maps.OwnIn
import Derived.Lib.SlKeysI
import Derived.Test.YthonckffmkefdaaGreatDoorZJ1
namespace Go.Proofs.YthonckffmkefdaaGreatDoor
set_option maxHeartbeats 64000000
set_option maxRecDepth 100000
set_option linter.unusedVariables false
set_option linter.unusedSimpArgs false
set_option linter.unusedSectionVars false
open Go.RowKit
open Go.Proofs.Tryz
open _root_ renaming Nat->I,Int->N,rfl->T,List->je,BitVec->jl,Array->jt,congrArg->jv,Bool->jw,Option->jE,if_neg->j5,if_pos->o8,absurd->qj
open _root_.Option renaming some->A,none->jd,some->wi,eq_none_or_eq_some->xR
open Go.Value renaming int->ja
open Go.Value renaming int->jb,oneCell'->q7,ownBlock->xh
open Go renaming World->jc,Value->jh,TypeId->jr,Calls->ju,Oper->jy,undef->jB,Boxed->jD,Program->jI,wpOp->jK,Addr->jP,Exit->jT,execOp->jV,yielded->jX,maxLen->jY,Code->j0,wpOp_mono->j1,Operand->ms,results_none->nv,wpList->n0,bodyPost_ret->o1,info_parts->qc,wp_region_lit->qk,wpList_load_row->ql,wpList_plain->qn,KeepsFrom->qB,callsIn_wide->qC,run_takeDeferred->qD,callFunc->qK,wpOp_step->qQ,bits_or_u64_nat->rk,callsIn_of_wp->rn,wp_store_row->rv,results_cell_row->r4,wpList_append_own->r5,bodyPost_end->xq,callsIn_of_wp_marks->xr,run_underlying->xt,run_sliceAt_slice->xu
open _root_.Bool renaming true->jf,false->jz,and_eq_true->jZ,or_eq_true->qW
open Go.IntKind renaming i64->jg,u64->jk,u32->jq,u8->jF
open Go.Proofs.Tryz renaming prog->ji
open Go.Obj renaming cells->jj
open Go.RowKit renaming Hid->jm,Below->jn
open Go.IntKind renaming u32->jo,u64->jJ,wrap_u64->pz
open Go.Value renaming slice->jp,pointer->jG,tuple->jL,agg->jS,string->qF
open Go.Ending renaming returned->js
open _root_.Nat renaming le_refl->jA,mod_eq_of_lt->j3,mul_comm->lw,zero_add->mb,le_trans->qa,eq_zero_or_pos->qg,pow_succ->qh,zero_le->qi,reduceAdd->qs,reduceSub->qt,lt_of_lt_of_le->qz,lt_or_ge->qH,le_of_eq->qL,mod_lt->qM,shiftLeft_eq->qY,add_assoc->q8,two_pow_add_eq_or_of_lt->r6,mul_add_mod->r7,zero_mul->r9,mul_mod->sh,mul_assoc->sn,pow_le_pow_right->sx,shiftRight_eq_div_pow->xd,lt_or_eq_of_le->xm,mod_two_eq_zero_or_one->xC,div_le_self->xE,not_lt_zero->xP,one_le_two_pow->xS,le_of_lt_succ->xU
open Go.Proofs renaming intOf->jC
open Go.RowKit.Below renaming heap_alloc->jH,refl->jM,heap_setCell->qd,setCell->sy
open Go.Proofs.Tryz renaming underlying3->jN,underlying30->jR,func233->j6,ntmps233->j7,underlying9->qA,underlying23->qE,func223->qI,ntmps223->qJ,underlying5->qP,underlying345->qS,underlying183->qT,func241->qU,underlying0->xn,underlying4->xo,underlying38->xw
open Go.World renaming alloc_heap_new->jO,cell?->j4,size_alloc->j8,putObj_heap_other->ob,putObj->qV,grownBy->qX,setCell->xg,ownsRow_nil->xi,putObj_heap_same->xx,frozen?->xL
open _root_.Array renaming getElem?_eq_some_iff->jQ,all_eq_true_iff_forall_mem->qe,replicate->qf,replicate_succ->qu,replicate_zero->qv,getD_eq_getD_getElem?->qG,getElem?_eq_none->r8,getElem?_modify->xf,getElem?_setIfInBounds_ne->xy,setIfInBounds_comm->xz
open _root_.List renaming getD->jU,size_toArray->jW,length_map->j9,replicate->mz,length_cons->oj,getElem?_eq_some_iff->ow,nil_append->p6,mem_map->qb,length_nil->qo,push_toArray->qw,append_toArray->qx,cons_append->qy,append_assoc->qO,set->qZ,getElem?_eq_getElem->q9,append_nil->sv,eq_nil_of_length_eq_zero->vi,map_toArray->wq,map_cons->wt,map_nil->wv,length_append->xj,getElem?_map->xk,mem_append->xl,all_eq_true->xA,mem_range->xB,getD_eq_getElem?_getD->xM,flatten_append->xN,map_append->xO,take_succ_eq_append_getElem->xQ,mem_singleton->xT
open _root_.BitVec renaming ofNat->nn,toNat_setWidth->qN,toNat_ofNat->wx,toNat_ushiftRight->xa,toNat_shiftLeft->xe,ofInt->xG,toNat_xor->xH,toNat_or->xI,toNat_add->xJ,rotateLeft_def->xK
open _root_.Int renaming toNat_natCast->sq,eq_ofNat_of_zero_le->xD
variable{B r:I}{f:I->Prop}{d:LBy}{H:Type}{P:jI}{W a w w':jc}{b:je (jl 32)}{m:je I}{e:jh}{t:jr}
section
open Go.Shelf
def Tryzx.laysM180_ren:Go.Shelf.Ren:=⟨fun|180=>104|251=>156|252=>157|181=>210|184=>211|290=>212|324=>247|n=>n,fun|130=>254|37=>30|3=>3|75=>200|0=>0|93=>196|91=>194|131=>67|4=>4|20=>20|5=>5|80=>367|9=>9|n=>n,fun|14=>2|n=>n⟩
theorem Tryzx.laysM180:Go.Proofs.LaysM.n180 ji Tryzx.laysM180_ren:={
 mixed:=by kernel_rfl
 f180:=func104.trans (jv A af)
 f181:=func210.trans (jv A af)
 f184:=func211.trans (jv A af)
 f251:=func156.trans (jv A af)
 f252:=func157.trans (jv A af)
 f290:=func212.trans (jv A af)
 f324:=func247.trans (jv A af)
 t0:=xn
 a0:=isAgg0
 z0:=sizeOf0
 v0:=zeroValue0
 t3:=jN
 a3:=isAgg3
 z3:=sizeOf3
 v3:=zeroValue3
 t4:=xo
 a4:=isAgg4
 z4:=sizeOf4
 v4:=zeroValue4
 t20:=underlying20
 a20:=isAgg20
 z20:=sizeOf20
 v20:=zeroValue20
 t37:=jR
 a37:=isAgg30
 z37:=sizeOf30
 v37:=zeroValue30
 t75:=underlying200
 a75:=isAgg200
 z75:=sizeOf200
 v75:=zeroValue200
 t91:=underlying194
 a91:=isAgg194
 z91:=sizeOf194
 v91:=zeroValue194
 t93:=underlying196
 a93:=isAgg196
 z93:=sizeOf196
 v93:=zeroValue196
 t130:=underlying254
 a130:=isAgg254
 z130:=sizeOf254
 v130:=zeroValue254
 t131:=underlying67
 a131:=isAgg67
 z131:=sizeOf67
 v131:=zeroValue67
 g14:=by kernel_rfl
 t5:=qP
 a5:=isAgg5
 z5:=sizeOf5
 v5:=zeroValue5
 t9:=qA
 a9:=isAgg9
 z9:=sizeOf9
 v9:=zeroValue9
 t80:=underlying367
 a80:=isAgg367
 z80:=sizeOf367
 v80:=zeroValue367
 i0:=by kernel_rfl
 i3:=by kernel_rfl
 i4:=by kernel_rfl
 i5:=by kernel_rfl
 i9:=by kernel_rfl
 i20:=by kernel_rfl
 i37:=by kernel_rfl
 i75:=by kernel_rfl
 i80:=by kernel_rfl
 i91:=by kernel_rfl
 i93:=by kernel_rfl
 i130:=by kernel_rfl
 i131:=by kernel_rfl
 m14:=by kernel_rfl}
open Go.RowKit in
theorem Tryz.Buffer_Write_at(g:jr)(R:I->jE jh)(B b q:I)(d f:je jh)(a:jP)(n c:I)(w:jc)(h:LibA.IsBuffer g R 5 B b q d w)(i:B<=w.heap.size)(k:∀v∈d,v.oneCell'=jf)(l:f.length=n)(m:a.block≠b)(o:∀j v,f[j]?=A v->w.cell? (a.add j)=A v)(j:∀v∈f,v.oneCell'=jf)(p:d.length+n<=140737488355328):
 ju ji 104 #[jG (A ⟨b,q,jd⟩),jp (A a) n c] w λe w'=>e=js (jL #[ja jg n,.nilIface])/\LibA.IsBuffer g R 5 B b q (d++f) w'/\jn B w w'/\Lib.OthersKept 5 (A b) w w':=Any.Buffer_Write_at Tryzx.laysM180 g R B b q d f a n c w h i k l m o j p
end
theorem pK(a:I)(b:a<18446744073709551616):bits .and .u64 (a:N) 4294967295=((a%4294967296:I):N):=by
 have h:=bits_and_u64_nat a 4294967295 b Y;have e:a&&&4294967295=a%4294967296:=Nat.and_two_pow_sub_one_eq_mod a 32;rw[e]at h;exact h
theorem TN(a:I):(a:N)/4294967296=((a/4294967296:I):N):=Y
theorem Rj(a b:I):(a:N)*(b:N)=((a*b:I):N):=(Int.natCast_mul a b).symm
theorem Mz(a b:I):(a:N)+(b:N)=((a+b:I):N):=(Int.natCast_add a b).symm
theorem nN(a:I)(b:a<18446744073709551616):jJ.wrap (a:N)=(a:N):=by rw[pz];omega
theorem KE(a:I):jJ.wrap (a:N)=((a%18446744073709551616:I):N):=by rw[pz];omega
theorem BZ(x y:I)(c:x<18446744073709551616)(d:y<18446744073709551616)(w:jc):
 ju ji 222 #[ja jk x,ja jk y] w λe w'=>e=js (jL #[ja jk ((x*y/18446744073709551616:I):N),ja jk ((x*y%18446744073709551616:I):N)])/\w=w':=by
 obtain⟨g,f,h,i⟩:=Lib.mul64_hi x y c d;have o:=Lib.half_mul_le (a:=x/4294967296) (b:=y/4294967296) Y Y;have p:=Lib.half_mul_le (a:=x/4294967296) (b:=y%4294967296) Y Y;have q:=Lib.half_mul_le (a:=x%4294967296) (b:=y/4294967296) Y Y;have j:x/4294967296*(y/4294967296)<18446744073709551616:=Y;have k:x/4294967296*(y%4294967296)<18446744073709551616:=Y;have l:x%4294967296*(y/4294967296)<18446744073709551616:=Y;have m:x/4294967296*(y/4294967296)+(x/4294967296*(y%4294967296)+x%4294967296*(y%4294967296)/4294967296)/4294967296<18446744073709551616:=Y;have n:x/4294967296*(y/4294967296)+(x/4294967296*(y%4294967296)+x%4294967296*(y%4294967296)/4294967296)/4294967296+((x/4294967296*(y%4294967296)+x%4294967296*(y%4294967296)/4294967296)%4294967296+x%4294967296*(y/4294967296))/4294967296<18446744073709551616:=Y
 go_enter func222,ntmps222
 go_wp2
 simp only[pK x c,pK y d,TN,Rj,Mz,nN _ g,nN _ k,nN _ f,pK _ f,nN _ l,nN _ h,nN _ j,nN _ m,nN _ n,KE (x*y)];rw[i];go_ret2;exact⟨T,T⟩
theorem tP(w:jc):ju ji 251 #[ja jk 4611686018427377339] w λe w'=>e=js (ja jg 2)/\w=w':=by
 have a:=λw=>ui 4611686018427377339 G G w
 have e:bitLen (4611686018427377339:N).toNat=62:=by decide+kernel
 rw[e]at a
 go_enter func251,ntmps251
 go_wp2_with (go_at_call 181;refine(a _).mono ?_;rintro e w' ⟨rfl,rfl⟩)
 go_ret;exact⟨T,T⟩
theorem ij(q r a d:I)(b:q*4294967295+r=a)(c:a*4294967296+d<q*18446744073709509356)(e:r=0):(q-1)*4294967295+(r+4294967295)=a/\a*4294967296+d<(q-1+1)*18446744073709509356:=Y
theorem gX(q r a d:I)(b:q*4294967295+r=a)(c:a<18446744073709509356)(e:a*4294967296+d<q*18446744073709509356)(f:¬r=0)(g:q<=4294967297):(q-1)*18446744073709509356<=a*4294967296+d/\a*4294967296+d<(q-1+1)*18446744073709509356:=Y
theorem ng(q r a d:I)(b:d<=4294967295)(c:a<18446744073709509356)(e:4294967296<=q):a*4294967296+d<q*18446744073709509356:=Y
theorem nH(q r a d:I)(b:q*4294967295+r=a)(c:4294967296*r+d<q*4294925036):a*4294967296+d<q*18446744073709509356:=Y
theorem nJ(q r a d:I)(b:q*4294967295+r=a)(c:¬4294967296*r+d<q*4294925036):q*18446744073709509356<=a*4294967296+d:=Y
theorem ni(a d:I)(b:d<=4294967295)(c:a<18446744073709509356):a/4294967295*4294967295+a%4294967295=a/\a*4294967296+d<(a/4294967295+1)*18446744073709509356:=Y
theorem t_v(a d k v:I)(b:k*18446744073709509356<=a*4294967296+d)(c:a*4294967296+d<(k+1)*18446744073709509356)(e:v=a*4294967296+d-k*18446744073709509356):v<18446744073709509356/\v+k*18446744073709509356=a*4294967296+d:=Y
theorem m8(v q r:I)(a:v<18446744073709509356)(b:q=v/4294967295)(c:r=v%4294967295):
 (v:N)/4294967295=(q:N)/\(v:N)-(q:N)*4294967295=(r:N)/\q<=4294967297/\(q:N)*4294967295<=(v:N)/\r<=4294967294:=Y
theorem t_w(a d k v:I)(b:v+k*18446744073709509356=a*4294967296+d)(c:v<18446744073709509356):
 jJ.wrap (jJ.wrap (jJ.wrap ((a:N)*4294967296)+(d:N))-jJ.wrap ((k:N)*18446744073709509356))=(v:N):=by
 simp only[pz];omega
theorem sV(c b d l e a k m v z:I)(s:b<18446744073709551616)(t:c<4611686018427377339)(f:d=4*c+b/4611686018427387904)(g:l=b*4%18446744073709551616)(h:e=l/4294967296)(i:a=l%4294967296)
 (j:v+k*18446744073709509356=d*4294967296+e) (n:m*18446744073709509356<=v*4294967296+a) (o:v*4294967296+a<(m+1)*18446744073709509356) (p:z=(v*4294967296+a-m*18446744073709509356)/4):
 c*18446744073709551616+b=(k*4294967296+m)*4611686018427377339+z/\z<4611686018427377339/\4*z+m*18446744073709509356=v*4294967296+a:=by
 have q:l=e*4294967296+a:=Y;have r:d*18446744073709551616+l=4*(c*18446744073709551616+b):=Y;clear f g h i;obtain⟨i,f⟩:=J (v*4294967296+a);obtain⟨B,g⟩:=J (c*18446744073709551616+b);obtain⟨K,h⟩:=J (k*4294967296);have u:i+K*18446744073709509356=4*B:=Y;rw[<-f]at n o p;rw[<-f,<-g,<-h];clear j q r f g h;omega
theorem div64_0(a:I)(b:a<18446744073709551616)(w:jc):
 ju ji 223 #[ja jk 0,ja jk a,ja jk 4611686018427377339] w λe w'=>
  ∃q:N,e=js (jL #[ja jk q,ja jk ((a%4611686018427377339:I):N)])/\jn w w w':=by
 have c:(0:N)<=a:=Y
 go_enter qI,qJ
 go_upto_region 6 with fail
 go_quiet (fail)
 go_wp2
 go_ret2;exact⟨_,T,T,T,T,jA _,λ_ _=>rfl⟩
theorem div64_1(f n:I)(h0:1<=f)(aa:f<4611686018427377339)(YJ:n<18446744073709551616)(w:jc):
 ju ji 223 #[ja jk f,ja jk n,ja jk 4611686018427377339] w λe w'=>
  ∃q:N,e=js (jL #[ja jk q,ja jk (((f*18446744073709551616+n)%4611686018427377339:I):N)])/\jn w w w':=by
 obtain⟨a,k⟩:∃a:I,a=4*f+n/4611686018427387904:=⟨_,T⟩;obtain⟨l,m⟩:∃l:I,l=n*4%18446744073709551616:=⟨_,T⟩;obtain⟨c,j⟩:∃c:I,c=l/4294967296:=⟨_,T⟩;obtain⟨d,s⟩:∃d:I,d=l%4294967296:=⟨_,T⟩;obtain⟨q,t⟩:∃q:I,q=a/4294967295:=⟨_,T⟩;obtain⟨r,u⟩:∃r:I,r=a%4294967295:=⟨_,T⟩;have v:bits .and .u64 18446744073709509356 4294967295=4294925036:=by decide+kernel
 have x:bits .or .u64 ((f:N)*4) ((n:N)/4611686018427387904)=(a:N):=by
  have g:(f:N)*4=((f*4:I):N):=Y;have o:(n:N)/4611686018427387904=((n/4611686018427387904:I):N):=Y;rw[g,o,rk _ _ Y Y,k];have h:=r6 (i:=2) (b:=n/4611686018427387904) Y f;rw[show 2^2*f=f*4 by omega]at h;rw[<-h];omega
 have h:jJ.wrap ((n:N)*4)=(l:N):=by rw[pz,m];omega
 have y:(l:N)/4294967296=(c:N):=Y;have z:bits .and .u64 (l:N) 4294967295=(d:N):=by rw[pK l Y,s]
 have p:a<18446744073709509356:=Y;have U:c<=4294967295:=Y;have V:d<=4294967295:=Y;obtain⟨C,E,o,D,B⟩:=m8 a q r p t u;have g:jm (q*4294967295+r=a/\a*4294967296+c<(q+1)*18446744073709509356):=O (by rw[t,u];exact ni a c U p);have HU:=O k;have HL:=O m;have ac:=O j;have ad:=O s;clear k m j s t u;have au:=O tP;have j:=aw ((4611686018427377339:N)<=(f:N));have hd2:=aw (f=0);have hd3:=aw ((f:N)=0)
 go_enter qI,qJ
 go_upto_block 0 with(go_at_call 251;refine(au _).mono ?_;rintro e w' ⟨rfl,rfl⟩)
 clear v x h y z C E j hd2 hd3
 go_cut [15,16] (λm z F=>∃k:I,m=ja jk k/\jm (k*18446744073709509356<=a*4294967296+c/\a*4294967296+c<(k+1)*18446744073709509356)/\w=F)
 case first=>
  go_wp2_with fail
  go_loop [15,16] (λm z=>∃q r:I,m=ja jk q/\z=ja jk r/\q<=4294967297/\r<=4294967295/\jm (q*4294967295+r=a/\a*4294967296+c<(q+1)*18446744073709509356)) (λm _=>(jC m).toNat)
  case atStart=>exact⟨q,r,T,T,o,by omega,g⟩
  clear o D B g;have H:=U;have p:=p;obtain⟨q,r,rfl,rfl,o,B,g⟩:=hrel;obtain⟨h,u⟩:=g.out
  by_cases K:4294967296<=q
  ·have M:=az ((4294967296:N)<=(q:N))
   have s:=O (ng q r a c H p K);have t:=O h;clear h u g
   go_upto_region 20 with fail
   by_cases j:r=0
   ·have y:=aw ((4294967296:N)<=(r:N)+4294967295)
    go_wp2_with fail
    refine⟨⟨q-1,r+4294967295,?_,?_,by omega,by omega,O (ij q r _ _ t.out s j)⟩,?_⟩
    ·exact jv (jb .u64) Y
    ·exact jv (jb .u64) Y
    simp only[jC];omega
   have y:=az ((4294967296:N)<=(r:N)+4294967295)
   go_wp2_with fail
   go_meet
   exact⟨q-1,jv (jb .u64) Y,O (gX q r _ _ t.out p s j o),T⟩
  have M:=aw ((4294967296:N)<=(q:N))
  by_cases x:4294967296*r+c<q*4294925036
  ·have P:=az ((4294967296:N)*(r:N)+(c:N)<(q:N)*4294925036)
   have ax:1<=q:=Y;have s:=O (nH q r a c h x);have t:=O h;clear h u g x
   go_upto_region 20 with fail
   by_cases j:r=0
   ·have y:=aw ((4294967296:N)<=(r:N)+4294967295)
    go_wp2_with fail
    refine⟨⟨q-1,r+4294967295,?_,?_,by omega,by omega,O (ij q r _ _ t.out s j)⟩,?_⟩
    ·exact jv (jb .u64) Y
    ·exact jv (jb .u64) Y
    simp only[jC];omega
   have y:=az ((4294967296:N)<=(r:N)+4294967295)
   go_wp2_with fail
   go_meet
   exact⟨q-1,jv (jb .u64) Y,O (gX q r _ _ t.out p s j o),T⟩
  have P:=aw ((4294967296:N)*(r:N)+(c:N)<(q:N)*4294925036);have Q:jm (q*18446744073709509356<=a*4294967296+c/\a*4294967296+c<(q+1)*18446744073709509356):=O ⟨nJ q r _ _ h x,u⟩;clear h u g x
  go_wp2_with fail
  go_meet
  exact⟨q,T,Q,T⟩
 obtain⟨k,rfl,W,rfl⟩:=hcut;obtain⟨v,C⟩:∃v:I,v=a*4294967296+c-k*18446744073709509356:=⟨_,T⟩;obtain⟨E,R⟩:=t_v a c k v W.1 W.2 C;have X:=O R;clear C R;have E7:=t_w a c k v X E;obtain⟨C,R⟩:∃C:I,C=v/4294967295:=⟨_,T⟩;obtain⟨r2,S⟩:∃r2:I,r2=v%4294967295:=⟨_,T⟩;clear o D B g;obtain⟨E8,E9,o,D,B⟩:=m8 v C r2 E R S;have g:jm (C*4294967295+r2=v/\v*4294967296+d<(C+1)*18446744073709509356):=O (by rw[R,S];exact ni v d V E);clear R S
 go_upto_block 2 with fail
 clear E7 E8 E9
 go_cut [18,16] (λm z F=>∃k:I,m=ja jk k/\jm (k*18446744073709509356<=v*4294967296+d/\v*4294967296+d<(k+1)*18446744073709509356)/\w=F)
 case first=>
  go_wp2_with fail
  go_loop [18,16] (λm z=>∃q r:I,m=ja jk q/\z=ja jk r/\q<=4294967297/\r<=4294967295/\jm (q*4294967295+r=v/\v*4294967296+d<(q+1)*18446744073709509356)) (λm _=>(jC m).toNat)
  case atStart=>exact⟨C,r2,T,T,o,by omega,g⟩
  clear o D B g;have H:=V;have p:=E;obtain⟨q,r,rfl,rfl,o,B,g⟩:=hrel;obtain⟨h,u⟩:=g.out
  by_cases K:4294967296<=q
  ·have M:=az ((4294967296:N)<=(q:N))
   have s:=O (ng q r v d H p K);have t:=O h;clear h u g
   go_upto_region 27 with fail
   by_cases j:r=0
   ·have y:=aw ((4294967296:N)<=(r:N)+4294967295)
    go_wp2_with fail
    refine⟨⟨q-1,r+4294967295,?_,?_,by omega,by omega,O (ij q r _ _ t.out s j)⟩,?_⟩
    ·exact jv (jb .u64) Y
    ·exact jv (jb .u64) Y
    simp only[jC];omega
   have y:=az ((4294967296:N)<=(r:N)+4294967295)
   go_wp2_with fail
   go_meet
   exact⟨q-1,jv (jb .u64) Y,O (gX q r _ _ t.out p s j o),T⟩
  have M:=aw ((4294967296:N)<=(q:N))
  by_cases x:4294967296*r+d<q*4294925036
  ·have P:=az ((4294967296:N)*(r:N)+(d:N)<(q:N)*4294925036)
   have ax:1<=q:=Y;have s:=O (nH q r v d h x);have t:=O h;clear h u g x
   go_upto_region 27 with fail
   by_cases j:r=0
   ·have y:=aw ((4294967296:N)<=(r:N)+4294967295)
    go_wp2_with fail
    refine⟨⟨q-1,r+4294967295,?_,?_,by omega,by omega,O (ij q r _ _ t.out s j)⟩,?_⟩
    ·exact jv (jb .u64) Y
    ·exact jv (jb .u64) Y
    simp only[jC];omega
   have y:=az ((4294967296:N)<=(r:N)+4294967295)
   go_wp2_with fail
   go_meet
   exact⟨q-1,jv (jb .u64) Y,O (gX q r _ _ t.out p s j o),T⟩
  have P:=aw ((4294967296:N)*(r:N)+(d:N)<(q:N)*4294925036);have Q:jm (q*18446744073709509356<=v*4294967296+d/\v*4294967296+d<(q+1)*18446744073709509356):=O ⟨nJ q r _ _ h x,u⟩;clear h u g x
  go_wp2_with fail
  go_meet
  exact⟨q,T,Q,T⟩
 obtain⟨m,rfl,t,rfl⟩:=hcut;obtain⟨z,j⟩:∃z:I,z=(v*4294967296+d-m*18446744073709509356)/4:=⟨_,T⟩;obtain⟨u,x,s⟩:=sV f n a l c d k m v z YJ aa HU HL ac ad X t.1 t.2 j;have y:((f*18446744073709551616+n)%4611686018427377339:I)=z:=by
  rw[u,lw,r7,j3 x]
 obtain⟨h,F⟩:∃h:I,h=4*z:=⟨_,T⟩;rw[<-F]at s;have K:=t_w v d m h s Y;have M:(h:N)/4=(z:N):=Y;have H:=O y;clear j u x s y F
 go_wp2_with fail
 go_ret2;rw[H];exact⟨_,T,jM _ _⟩
namespace DivQ
theorem tP(w:jc):ju ji 251 #[ja jk 2305843009213688669] w λe w'=>e=js (ja jg 3)/\w=w':=by
 have a:=λw=>ui 2305843009213688669 G G w
 have e:bitLen (2305843009213688669:N).toNat=61:=by decide+kernel
 rw[e]at a
 go_enter func251,ntmps251
 go_wp2_with (go_at_call 181;refine(a _).mono ?_;rintro e w' ⟨rfl,rfl⟩)
 go_ret;exact⟨T,T⟩
theorem ij(q r a d:I)(b:q*4294967295+r=a)(c:a*4294967296+d<q*18446744073709509352)(e:r=0):(q-1)*4294967295+(r+4294967295)=a/\a*4294967296+d<(q-1+1)*18446744073709509352:=Y
theorem gX(q r a d:I)(b:q*4294967295+r=a)(c:a<18446744073709509352)(e:a*4294967296+d<q*18446744073709509352)(f:¬r=0)(g:q<=4294967297):(q-1)*18446744073709509352<=a*4294967296+d/\a*4294967296+d<(q-1+1)*18446744073709509352:=Y
theorem ng(q r a d:I)(b:d<=4294967295)(c:a<18446744073709509352)(e:4294967296<=q):a*4294967296+d<q*18446744073709509352:=Y
theorem nH(q r a d:I)(b:q*4294967295+r=a)(c:4294967296*r+d<q*4294925032):a*4294967296+d<q*18446744073709509352:=Y
theorem nJ(q r a d:I)(b:q*4294967295+r=a)(c:¬4294967296*r+d<q*4294925032):q*18446744073709509352<=a*4294967296+d:=Y
theorem ni(a d:I)(b:d<=4294967295)(c:a<18446744073709509352):a/4294967295*4294967295+a%4294967295=a/\a*4294967296+d<(a/4294967295+1)*18446744073709509352:=Y
theorem t_v(a d k v:I)(b:k*18446744073709509352<=a*4294967296+d)(c:a*4294967296+d<(k+1)*18446744073709509352)(e:v=a*4294967296+d-k*18446744073709509352):v<18446744073709509352/\v+k*18446744073709509352=a*4294967296+d:=Y
theorem m8(v q r:I)(a:v<18446744073709509352)(b:q=v/4294967295)(c:r=v%4294967295):
 (v:N)/4294967295=(q:N)/\(v:N)-(q:N)*4294967295=(r:N)/\q<=4294967297/\(q:N)*4294967295<=(v:N)/\r<=4294967294:=Y
theorem t_w(a d k v:I)(b:v+k*18446744073709509352=a*4294967296+d)(c:v<18446744073709509352):
 jJ.wrap (jJ.wrap (jJ.wrap ((a:N)*4294967296)+(d:N))-jJ.wrap ((k:N)*18446744073709509352))=(v:N):=by
 simp only[pz];omega
theorem sV(c b d l e a k m v z:I)(s:b<18446744073709551616)(t:c<2305843009213688669)(f:d=8*c+b/2305843009213693952)(g:l=b*8%18446744073709551616)(h:e=l/4294967296)(i:a=l%4294967296)
 (j:v+k*18446744073709509352=d*4294967296+e) (n:m*18446744073709509352<=v*4294967296+a) (o:v*4294967296+a<(m+1)*18446744073709509352) (p:z=(v*4294967296+a-m*18446744073709509352)/8):
 c*18446744073709551616+b=(k*4294967296+m)*2305843009213688669+z/\z<2305843009213688669/\8*z+m*18446744073709509352=v*4294967296+a:=by
 have q:l=e*4294967296+a:=Y;have r:d*18446744073709551616+l=8*(c*18446744073709551616+b):=Y;clear f g h i;obtain⟨i,f⟩:=J (v*4294967296+a);obtain⟨B,g⟩:=J (c*18446744073709551616+b);obtain⟨K,h⟩:=J (k*4294967296);have u:i+K*18446744073709509352=8*B:=Y;rw[<-f]at n o p;rw[<-f,<-g,<-h];clear j q r f g h;omega
theorem div64_0(a:I)(b:a<18446744073709551616)(w:jc):
 ju ji 223 #[ja jk 0,ja jk a,ja jk 2305843009213688669] w λe w'=>
  ∃q:N,e=js (jL #[ja jk q,ja jk ((a%2305843009213688669:I):N)])/\jn w w w':=by
 have c:(0:N)<=a:=Y
 go_enter qI,qJ
 go_upto_region 6 with fail
 go_quiet (fail)
 go_wp2
 go_ret2;exact⟨_,T,T,T,T,jA _,λ_ _=>rfl⟩
theorem div64_1(f n:I)(h0:1<=f)(aa:f<2305843009213688669)(YJ:n<18446744073709551616)(w:jc):
 ju ji 223 #[ja jk f,ja jk n,ja jk 2305843009213688669] w λe w'=>
  ∃q:N,e=js (jL #[ja jk q,ja jk (((f*18446744073709551616+n)%2305843009213688669:I):N)])/\jn w w w':=by
 obtain⟨a,k⟩:∃a:I,a=8*f+n/2305843009213693952:=⟨_,T⟩;obtain⟨l,m⟩:∃l:I,l=n*8%18446744073709551616:=⟨_,T⟩;obtain⟨c,j⟩:∃c:I,c=l/4294967296:=⟨_,T⟩;obtain⟨d,s⟩:∃d:I,d=l%4294967296:=⟨_,T⟩;obtain⟨q,t⟩:∃q:I,q=a/4294967295:=⟨_,T⟩;obtain⟨r,u⟩:∃r:I,r=a%4294967295:=⟨_,T⟩;have v:bits .and .u64 18446744073709509352 4294967295=4294925032:=by decide+kernel
 have x:bits .or .u64 ((f:N)*8) ((n:N)/2305843009213693952)=(a:N):=by
  have g:(f:N)*8=((f*8:I):N):=Y;have o:(n:N)/2305843009213693952=((n/2305843009213693952:I):N):=Y;rw[g,o,rk _ _ Y Y,k];have h:=r6 (i:=3) (b:=n/2305843009213693952) Y f;rw[show 2^3*f=f*8 by omega]at h;rw[<-h];omega
 have h:jJ.wrap ((n:N)*8)=(l:N):=by rw[pz,m];omega
 have y:(l:N)/4294967296=(c:N):=Y;have z:bits .and .u64 (l:N) 4294967295=(d:N):=by rw[pK l Y,s]
 have p:a<18446744073709509352:=Y;have U:c<=4294967295:=Y;have V:d<=4294967295:=Y;obtain⟨C,E,o,D,B⟩:=m8 a q r p t u;have g:jm (q*4294967295+r=a/\a*4294967296+c<(q+1)*18446744073709509352):=O (by rw[t,u];exact ni a c U p);have HU:=O k;have HL:=O m;have ac:=O j;have ad:=O s;clear k m j s t u;have au:=O tP;have j:=aw ((2305843009213688669:N)<=(f:N));have hd2:=aw (f=0);have hd3:=aw ((f:N)=0)
 go_enter qI,qJ
 go_upto_block 0 with(go_at_call 251;refine(au _).mono ?_;rintro e w' ⟨rfl,rfl⟩)
 clear v x h y z C E j hd2 hd3
 go_cut [15,16] (λm z F=>∃k:I,m=ja jk k/\jm (k*18446744073709509352<=a*4294967296+c/\a*4294967296+c<(k+1)*18446744073709509352)/\w=F)
 case first=>
  go_wp2_with fail
  go_loop [15,16] (λm z=>∃q r:I,m=ja jk q/\z=ja jk r/\q<=4294967297/\r<=4294967295/\jm (q*4294967295+r=a/\a*4294967296+c<(q+1)*18446744073709509352)) (λm _=>(jC m).toNat)
  case atStart=>exact⟨q,r,T,T,o,by omega,g⟩
  clear o D B g;have H:=U;have p:=p;obtain⟨q,r,rfl,rfl,o,B,g⟩:=hrel;obtain⟨h,u⟩:=g.out
  by_cases K:4294967296<=q
  ·have M:=az ((4294967296:N)<=(q:N))
   have s:=O (ng q r a c H p K);have t:=O h;clear h u g
   go_upto_region 20 with fail
   by_cases j:r=0
   ·have y:=aw ((4294967296:N)<=(r:N)+4294967295)
    go_wp2_with fail
    refine⟨⟨q-1,r+4294967295,?_,?_,by omega,by omega,O (ij q r _ _ t.out s j)⟩,?_⟩
    ·exact jv (jb .u64) Y
    ·exact jv (jb .u64) Y
    simp only[jC];omega
   have y:=az ((4294967296:N)<=(r:N)+4294967295)
   go_wp2_with fail
   go_meet
   exact⟨q-1,jv (jb .u64) Y,O (gX q r _ _ t.out p s j o),T⟩
  have M:=aw ((4294967296:N)<=(q:N))
  by_cases x:4294967296*r+c<q*4294925032
  ·have P:=az ((4294967296:N)*(r:N)+(c:N)<(q:N)*4294925032)
   have ax:1<=q:=Y;have s:=O (nH q r a c h x);have t:=O h;clear h u g x
   go_upto_region 20 with fail
   by_cases j:r=0
   ·have y:=aw ((4294967296:N)<=(r:N)+4294967295)
    go_wp2_with fail
    refine⟨⟨q-1,r+4294967295,?_,?_,by omega,by omega,O (ij q r _ _ t.out s j)⟩,?_⟩
    ·exact jv (jb .u64) Y
    ·exact jv (jb .u64) Y
    simp only[jC];omega
   have y:=az ((4294967296:N)<=(r:N)+4294967295)
   go_wp2_with fail
   go_meet
   exact⟨q-1,jv (jb .u64) Y,O (gX q r _ _ t.out p s j o),T⟩
  have P:=aw ((4294967296:N)*(r:N)+(c:N)<(q:N)*4294925032);have Q:jm (q*18446744073709509352<=a*4294967296+c/\a*4294967296+c<(q+1)*18446744073709509352):=O ⟨nJ q r _ _ h x,u⟩;clear h u g x
  go_wp2_with fail
  go_meet
  exact⟨q,T,Q,T⟩
 obtain⟨k,rfl,W,rfl⟩:=hcut;obtain⟨v,C⟩:∃v:I,v=a*4294967296+c-k*18446744073709509352:=⟨_,T⟩;obtain⟨E,R⟩:=t_v a c k v W.1 W.2 C;have X:=O R;clear C R;have E7:=t_w a c k v X E;obtain⟨C,R⟩:∃C:I,C=v/4294967295:=⟨_,T⟩;obtain⟨r2,S⟩:∃r2:I,r2=v%4294967295:=⟨_,T⟩;clear o D B g;obtain⟨E8,E9,o,D,B⟩:=m8 v C r2 E R S;have g:jm (C*4294967295+r2=v/\v*4294967296+d<(C+1)*18446744073709509352):=O (by rw[R,S];exact ni v d V E);clear R S
 go_upto_block 2 with fail
 clear E7 E8 E9
 go_cut [18,16] (λm z F=>∃k:I,m=ja jk k/\jm (k*18446744073709509352<=v*4294967296+d/\v*4294967296+d<(k+1)*18446744073709509352)/\w=F)
 case first=>
  go_wp2_with fail
  go_loop [18,16] (λm z=>∃q r:I,m=ja jk q/\z=ja jk r/\q<=4294967297/\r<=4294967295/\jm (q*4294967295+r=v/\v*4294967296+d<(q+1)*18446744073709509352)) (λm _=>(jC m).toNat)
  case atStart=>exact⟨C,r2,T,T,o,by omega,g⟩
  clear o D B g;have H:=V;have p:=E;obtain⟨q,r,rfl,rfl,o,B,g⟩:=hrel;obtain⟨h,u⟩:=g.out
  by_cases K:4294967296<=q
  ·have M:=az ((4294967296:N)<=(q:N))
   have s:=O (ng q r v d H p K);have t:=O h;clear h u g
   go_upto_region 27 with fail
   by_cases j:r=0
   ·have y:=aw ((4294967296:N)<=(r:N)+4294967295)
    go_wp2_with fail
    refine⟨⟨q-1,r+4294967295,?_,?_,by omega,by omega,O (ij q r _ _ t.out s j)⟩,?_⟩
    ·exact jv (jb .u64) Y
    ·exact jv (jb .u64) Y
    simp only[jC];omega
   have y:=az ((4294967296:N)<=(r:N)+4294967295)
   go_wp2_with fail
   go_meet
   exact⟨q-1,jv (jb .u64) Y,O (gX q r _ _ t.out p s j o),T⟩
  have M:=aw ((4294967296:N)<=(q:N))
  by_cases x:4294967296*r+d<q*4294925032
  ·have P:=az ((4294967296:N)*(r:N)+(d:N)<(q:N)*4294925032)
   have ax:1<=q:=Y;have s:=O (nH q r v d h x);have t:=O h;clear h u g x
   go_upto_region 27 with fail
   by_cases j:r=0
   ·have y:=aw ((4294967296:N)<=(r:N)+4294967295)
    go_wp2_with fail
    refine⟨⟨q-1,r+4294967295,?_,?_,by omega,by omega,O (ij q r _ _ t.out s j)⟩,?_⟩
    ·exact jv (jb .u64) Y
    ·exact jv (jb .u64) Y
    simp only[jC];omega
   have y:=az ((4294967296:N)<=(r:N)+4294967295)
   go_wp2_with fail
   go_meet
   exact⟨q-1,jv (jb .u64) Y,O (gX q r _ _ t.out p s j o),T⟩
  have P:=aw ((4294967296:N)*(r:N)+(d:N)<(q:N)*4294925032);have Q:jm (q*18446744073709509352<=v*4294967296+d/\v*4294967296+d<(q+1)*18446744073709509352):=O ⟨nJ q r _ _ h x,u⟩;clear h u g x
  go_wp2_with fail
  go_meet
  exact⟨q,T,Q,T⟩
 obtain⟨m,rfl,t,rfl⟩:=hcut;obtain⟨z,j⟩:∃z:I,z=(v*4294967296+d-m*18446744073709509352)/8:=⟨_,T⟩;obtain⟨u,x,s⟩:=sV f n a l c d k m v z YJ aa HU HL ac ad X t.1 t.2 j;have y:((f*18446744073709551616+n)%2305843009213688669:I)=z:=by
  rw[u,lw,r7,j3 x]
 obtain⟨h,F⟩:∃h:I,h=8*z:=⟨_,T⟩;rw[<-F]at s;have K:=t_w v d m h s Y;have M:(h:N)/8=(z:N):=Y;have H:=O y;clear j u x s y F
 go_wp2_with fail
 go_ret2;rw[H];exact⟨_,T,jM _ _⟩
end DivQ
namespace DivS
theorem tP(w:jc):ju ji 251 #[ja jk 2305843009213688668] w λe w'=>e=js (ja jg 3)/\w=w':=by
 have a:=λw=>ui 2305843009213688668 G G w
 have e:bitLen (2305843009213688668:N).toNat=61:=by decide+kernel
 rw[e]at a
 go_enter func251,ntmps251
 go_wp2_with (go_at_call 181;refine(a _).mono ?_;rintro e w' ⟨rfl,rfl⟩)
 go_ret;exact⟨T,T⟩
theorem ij(q r a d:I)(b:q*4294967295+r=a)(c:a*4294967296+d<q*18446744073709509344)(e:r=0):(q-1)*4294967295+(r+4294967295)=a/\a*4294967296+d<(q-1+1)*18446744073709509344:=Y
theorem gX(q r a d:I)(b:q*4294967295+r=a)(c:a<18446744073709509344)(e:a*4294967296+d<q*18446744073709509344)(f:¬r=0)(g:q<=4294967297):(q-1)*18446744073709509344<=a*4294967296+d/\a*4294967296+d<(q-1+1)*18446744073709509344:=Y
theorem ng(q r a d:I)(b:d<=4294967295)(c:a<18446744073709509344)(e:4294967296<=q):a*4294967296+d<q*18446744073709509344:=Y
theorem nH(q r a d:I)(b:q*4294967295+r=a)(c:4294967296*r+d<q*4294925024):a*4294967296+d<q*18446744073709509344:=Y
theorem nJ(q r a d:I)(b:q*4294967295+r=a)(c:¬4294967296*r+d<q*4294925024):q*18446744073709509344<=a*4294967296+d:=Y
theorem ni(a d:I)(b:d<=4294967295)(c:a<18446744073709509344):a/4294967295*4294967295+a%4294967295=a/\a*4294967296+d<(a/4294967295+1)*18446744073709509344:=Y
theorem t_v(a d k v:I)(b:k*18446744073709509344<=a*4294967296+d)(c:a*4294967296+d<(k+1)*18446744073709509344)(e:v=a*4294967296+d-k*18446744073709509344):v<18446744073709509344/\v+k*18446744073709509344=a*4294967296+d:=Y
theorem m8(v q r:I)(a:v<18446744073709509344)(b:q=v/4294967295)(c:r=v%4294967295):
 (v:N)/4294967295=(q:N)/\(v:N)-(q:N)*4294967295=(r:N)/\q<=4294967297/\(q:N)*4294967295<=(v:N)/\r<=4294967294:=Y
theorem t_w(a d k v:I)(b:v+k*18446744073709509344=a*4294967296+d)(c:v<18446744073709509344):
 jJ.wrap (jJ.wrap (jJ.wrap ((a:N)*4294967296)+(d:N))-jJ.wrap ((k:N)*18446744073709509344))=(v:N):=by
 simp only[pz];omega
theorem sV(c b d l e a k m v z:I)(s:b<18446744073709551616)(t:c<2305843009213688668)(f:d=8*c+b/2305843009213693952)(g:l=b*8%18446744073709551616)(h:e=l/4294967296)(i:a=l%4294967296)
 (j:v+k*18446744073709509344=d*4294967296+e) (n:m*18446744073709509344<=v*4294967296+a) (o:v*4294967296+a<(m+1)*18446744073709509344) (p:z=(v*4294967296+a-m*18446744073709509344)/8):
 c*18446744073709551616+b=(k*4294967296+m)*2305843009213688668+z/\z<2305843009213688668/\8*z+m*18446744073709509344=v*4294967296+a:=by
 have q:l=e*4294967296+a:=Y;have r:d*18446744073709551616+l=8*(c*18446744073709551616+b):=Y;clear f g h i;obtain⟨i,f⟩:=J (v*4294967296+a);obtain⟨B,g⟩:=J (c*18446744073709551616+b);obtain⟨K,h⟩:=J (k*4294967296);have u:i+K*18446744073709509344=8*B:=Y;rw[<-f]at n o p;rw[<-f,<-g,<-h];clear j q r f g h;omega
theorem div64_0(a:I)(b:a<18446744073709551616)(w:jc):
 ju ji 223 #[ja jk 0,ja jk a,ja jk 2305843009213688668] w λe w'=>
  ∃q:N,e=js (jL #[ja jk q,ja jk ((a%2305843009213688668:I):N)])/\jn w w w':=by
 have c:(0:N)<=a:=Y
 go_enter qI,qJ
 go_upto_region 6 with fail
 go_quiet (fail)
 go_wp2
 go_ret2;exact⟨_,T,T,T,T,jA _,λ_ _=>rfl⟩
theorem div64_1(f n:I)(h0:1<=f)(aa:f<2305843009213688668)(YJ:n<18446744073709551616)(w:jc):
 ju ji 223 #[ja jk f,ja jk n,ja jk 2305843009213688668] w λe w'=>
  ∃q:N,e=js (jL #[ja jk q,ja jk (((f*18446744073709551616+n)%2305843009213688668:I):N)])/\jn w w w':=by
 obtain⟨a,k⟩:∃a:I,a=8*f+n/2305843009213693952:=⟨_,T⟩;obtain⟨l,m⟩:∃l:I,l=n*8%18446744073709551616:=⟨_,T⟩;obtain⟨c,j⟩:∃c:I,c=l/4294967296:=⟨_,T⟩;obtain⟨d,s⟩:∃d:I,d=l%4294967296:=⟨_,T⟩;obtain⟨q,t⟩:∃q:I,q=a/4294967295:=⟨_,T⟩;obtain⟨r,u⟩:∃r:I,r=a%4294967295:=⟨_,T⟩;have v:bits .and .u64 18446744073709509344 4294967295=4294925024:=by decide+kernel
 have x:bits .or .u64 ((f:N)*8) ((n:N)/2305843009213693952)=(a:N):=by
  have g:(f:N)*8=((f*8:I):N):=Y;have o:(n:N)/2305843009213693952=((n/2305843009213693952:I):N):=Y;rw[g,o,rk _ _ Y Y,k];have h:=r6 (i:=3) (b:=n/2305843009213693952) Y f;rw[show 2^3*f=f*8 by omega]at h;rw[<-h];omega
 have h:jJ.wrap ((n:N)*8)=(l:N):=by rw[pz,m];omega
 have y:(l:N)/4294967296=(c:N):=Y;have z:bits .and .u64 (l:N) 4294967295=(d:N):=by rw[pK l Y,s]
 have p:a<18446744073709509344:=Y;have U:c<=4294967295:=Y;have V:d<=4294967295:=Y;obtain⟨C,E,o,D,B⟩:=m8 a q r p t u;have g:jm (q*4294967295+r=a/\a*4294967296+c<(q+1)*18446744073709509344):=O (by rw[t,u];exact ni a c U p);have HU:=O k;have HL:=O m;have ac:=O j;have ad:=O s;clear k m j s t u;have au:=O tP;have j:=aw ((2305843009213688668:N)<=(f:N));have hd2:=aw (f=0);have hd3:=aw ((f:N)=0)
 go_enter qI,qJ
 go_upto_block 0 with(go_at_call 251;refine(au _).mono ?_;rintro e w' ⟨rfl,rfl⟩)
 clear v x h y z C E j hd2 hd3
 go_cut [15,16] (λm z F=>∃k:I,m=ja jk k/\jm (k*18446744073709509344<=a*4294967296+c/\a*4294967296+c<(k+1)*18446744073709509344)/\w=F)
 case first=>
  go_wp2_with fail
  go_loop [15,16] (λm z=>∃q r:I,m=ja jk q/\z=ja jk r/\q<=4294967297/\r<=4294967295/\jm (q*4294967295+r=a/\a*4294967296+c<(q+1)*18446744073709509344)) (λm _=>(jC m).toNat)
  case atStart=>exact⟨q,r,T,T,o,by omega,g⟩
  clear o D B g;have H:=U;have p:=p;obtain⟨q,r,rfl,rfl,o,B,g⟩:=hrel;obtain⟨h,u⟩:=g.out
  by_cases K:4294967296<=q
  ·have M:=az ((4294967296:N)<=(q:N))
   have s:=O (ng q r a c H p K);have t:=O h;clear h u g
   go_upto_region 20 with fail
   by_cases j:r=0
   ·have y:=aw ((4294967296:N)<=(r:N)+4294967295)
    go_wp2_with fail
    refine⟨⟨q-1,r+4294967295,?_,?_,by omega,by omega,O (ij q r _ _ t.out s j)⟩,?_⟩
    ·exact jv (jb .u64) Y
    ·exact jv (jb .u64) Y
    simp only[jC];omega
   have y:=az ((4294967296:N)<=(r:N)+4294967295)
   go_wp2_with fail
   go_meet
   exact⟨q-1,jv (jb .u64) Y,O (gX q r _ _ t.out p s j o),T⟩
  have M:=aw ((4294967296:N)<=(q:N))
  by_cases x:4294967296*r+c<q*4294925024
  ·have P:=az ((4294967296:N)*(r:N)+(c:N)<(q:N)*4294925024)
   have ax:1<=q:=Y;have s:=O (nH q r a c h x);have t:=O h;clear h u g x
   go_upto_region 20 with fail
   by_cases j:r=0
   ·have y:=aw ((4294967296:N)<=(r:N)+4294967295)
    go_wp2_with fail
    refine⟨⟨q-1,r+4294967295,?_,?_,by omega,by omega,O (ij q r _ _ t.out s j)⟩,?_⟩
    ·exact jv (jb .u64) Y
    ·exact jv (jb .u64) Y
    simp only[jC];omega
   have y:=az ((4294967296:N)<=(r:N)+4294967295)
   go_wp2_with fail
   go_meet
   exact⟨q-1,jv (jb .u64) Y,O (gX q r _ _ t.out p s j o),T⟩
  have P:=aw ((4294967296:N)*(r:N)+(c:N)<(q:N)*4294925024);have Q:jm (q*18446744073709509344<=a*4294967296+c/\a*4294967296+c<(q+1)*18446744073709509344):=O ⟨nJ q r _ _ h x,u⟩;clear h u g x
  go_wp2_with fail
  go_meet
  exact⟨q,T,Q,T⟩
 obtain⟨k,rfl,W,rfl⟩:=hcut;obtain⟨v,C⟩:∃v:I,v=a*4294967296+c-k*18446744073709509344:=⟨_,T⟩;obtain⟨E,R⟩:=t_v a c k v W.1 W.2 C;have X:=O R;clear C R;have E7:=t_w a c k v X E;obtain⟨C,R⟩:∃C:I,C=v/4294967295:=⟨_,T⟩;obtain⟨r2,S⟩:∃r2:I,r2=v%4294967295:=⟨_,T⟩;clear o D B g;obtain⟨E8,E9,o,D,B⟩:=m8 v C r2 E R S;have g:jm (C*4294967295+r2=v/\v*4294967296+d<(C+1)*18446744073709509344):=O (by rw[R,S];exact ni v d V E);clear R S
 go_upto_block 2 with fail
 clear E7 E8 E9
 go_cut [18,16] (λm z F=>∃k:I,m=ja jk k/\jm (k*18446744073709509344<=v*4294967296+d/\v*4294967296+d<(k+1)*18446744073709509344)/\w=F)
 case first=>
  go_wp2_with fail
  go_loop [18,16] (λm z=>∃q r:I,m=ja jk q/\z=ja jk r/\q<=4294967297/\r<=4294967295/\jm (q*4294967295+r=v/\v*4294967296+d<(q+1)*18446744073709509344)) (λm _=>(jC m).toNat)
  case atStart=>exact⟨C,r2,T,T,o,by omega,g⟩
  clear o D B g;have H:=V;have p:=E;obtain⟨q,r,rfl,rfl,o,B,g⟩:=hrel;obtain⟨h,u⟩:=g.out
  by_cases K:4294967296<=q
  ·have M:=az ((4294967296:N)<=(q:N))
   have s:=O (ng q r v d H p K);have t:=O h;clear h u g
   go_upto_region 27 with fail
   by_cases j:r=0
   ·have y:=aw ((4294967296:N)<=(r:N)+4294967295)
    go_wp2_with fail
    refine⟨⟨q-1,r+4294967295,?_,?_,by omega,by omega,O (ij q r _ _ t.out s j)⟩,?_⟩
    ·exact jv (jb .u64) Y
    ·exact jv (jb .u64) Y
    simp only[jC];omega
   have y:=az ((4294967296:N)<=(r:N)+4294967295)
   go_wp2_with fail
   go_meet
   exact⟨q-1,jv (jb .u64) Y,O (gX q r _ _ t.out p s j o),T⟩
  have M:=aw ((4294967296:N)<=(q:N))
  by_cases x:4294967296*r+d<q*4294925024
  ·have P:=az ((4294967296:N)*(r:N)+(d:N)<(q:N)*4294925024)
   have ax:1<=q:=Y;have s:=O (nH q r v d h x);have t:=O h;clear h u g x
   go_upto_region 27 with fail
   by_cases j:r=0
   ·have y:=aw ((4294967296:N)<=(r:N)+4294967295)
    go_wp2_with fail
    refine⟨⟨q-1,r+4294967295,?_,?_,by omega,by omega,O (ij q r _ _ t.out s j)⟩,?_⟩
    ·exact jv (jb .u64) Y
    ·exact jv (jb .u64) Y
    simp only[jC];omega
   have y:=az ((4294967296:N)<=(r:N)+4294967295)
   go_wp2_with fail
   go_meet
   exact⟨q-1,jv (jb .u64) Y,O (gX q r _ _ t.out p s j o),T⟩
  have P:=aw ((4294967296:N)*(r:N)+(d:N)<(q:N)*4294925024);have Q:jm (q*18446744073709509344<=v*4294967296+d/\v*4294967296+d<(q+1)*18446744073709509344):=O ⟨nJ q r _ _ h x,u⟩;clear h u g x
  go_wp2_with fail
  go_meet
  exact⟨q,T,Q,T⟩
 obtain⟨m,rfl,t,rfl⟩:=hcut;obtain⟨z,j⟩:∃z:I,z=(v*4294967296+d-m*18446744073709509344)/8:=⟨_,T⟩;obtain⟨u,x,s⟩:=sV f n a l c d k m v z YJ aa HU HL ac ad X t.1 t.2 j;have y:((f*18446744073709551616+n)%2305843009213688668:I)=z:=by
  rw[u,lw,r7,j3 x]
 obtain⟨h,F⟩:∃h:I,h=8*z:=⟨_,T⟩;rw[<-F]at s;have K:=t_w v d m h s Y;have M:(h:N)/8=(z:N):=Y;have H:=O y;clear j u x s y F
 go_wp2_with fail
 go_ret2;rw[H];exact⟨_,T,jM _ _⟩
end DivS
section
variable{f:I}{a:I->Prop}{b:Type}{B w:jc}
structure bL(B0:I)(Ψ:I->Prop)(a B:jc):Prop where
 os:B.os=a.os
 tape:B.tape=a.tape
 output:B.output=a.output
 size:a.heap.size<=B.heap.size
 block:∀k,k<a.heap.size->¬Ψ k->(B.heap[k]?=a.heap[k]?\/(B0<=k/\∃o:Obj,a.heap[k]?=A o/\o.isCells=jz))
theorem bL.refl(B0:I)(Ψ:I->Prop)(a:jc):bL B0 Ψ a a:=⟨T,T,T,jA _,λ_ _ _=>.inl T⟩
theorem bL.ofBelow{d:I}(h:jn d w B)(b:∀k,k<w.heap.size->¬a k->k<d):bL f a w B:=
 ⟨h.os,h.tape,h.output,h.size,λk c n=>.inl (h.block k (b k c n))⟩
theorem bL.alloc(B0:I)(Ψ:I->Prop)(a:jc)(o:Obj):bL B0 Ψ a (a.alloc o):=
 ⟨rfl,rfl,rfl,by simp,λk b _=>.inl (jH _ _ _ b)⟩
theorem bL.putObj{d:I}{o:Obj}(b:Obj)(c:w.heap[d]?=A o)(l:o.isCells=jz)(B0:f<=d):bL f a w (w.putObj d b):=by
 refine⟨T,T,T,by simp[qV],λk g _=>?_⟩
 by_cases e:k=d
 ·subst e;exact .inr ⟨B0,o,c,l⟩
 exact .inl (ob e)
def bY{β:Type}(B0:I)(c:β->(I->Prop)->jc->Prop):Prop:=
 ∀s Ψ a b B,c s Ψ b->bL B0 a b B->(∀k,Ψ k->a k)->(∀k,a k->Ψ k\/b.heap.size<=k)->c s a B
theorem bY.and{a β:b->(I->Prop)->jc->Prop}(h:bY f a)(j:bY f β):bY f (λs Ψ W=>a s Ψ W/\β s Ψ W):=
 λs Ψ c d B e B0 g i=>⟨h s Ψ c d B e.1 B0 g i,j s Ψ c d B e.2 B0 g i⟩
theorem bY.keep{β:Type}{B0:I}{a:β->(I->Prop)->jc->Prop}(h:bY B0 a){s:β}{Ψ:I->Prop}{b B:jc}(c:a s Ψ b)(d:bL B0 Ψ b B):a s Ψ B:=
 h s Ψ Ψ b B c d (λ_ h=>h) (λ_ h=>.inl h)
theorem bL.cells{B0:I}{Ψ:I->Prop}{b:jc}(h:bL B0 Ψ b B){k:I}{c:jt jh}{t:jr}{f:I×I}(a:b.heap[k]?=A (jj c t f))(g:¬Ψ k):B.heap[k]?=A (jj c t f):=by
 rcases h.block k (jQ.1 a).1 g with e|⟨_,o,d,i⟩
 ·exact e.trans a
 rw[a]at d;cases d;cases i
theorem bL.row{B0:I}{Ψ:I->Prop}{a:jc}(h:bL B0 Ψ a B){base:I}{e:jr}{size:I}{v:jh}{n:I}{xs:je jh}
 (b:a.ownsRow base e size v n xs) (c:∀j,v.ownBlock=A j->¬Ψ j):B.ownsRow base e size v n xs:=by
 refine⟨b.1,?_⟩
 rcases b.2 with d|⟨g,f,i,rfl,j,k,l⟩
 ·exact .inl d
 exact .inr ⟨g,f,i,T,j,h.cells k (c g T),l⟩
def gP(b:I)(t:jr)(base:I)(e:jr)(size n:I)(xs:je jh)(a:jh->Prop)(Ψ:I->Prop)(W:jc):Prop:=
 ∃v,jD W b t v/\¬Ψ b/\W.ownsRow base e size v n xs/\(∀j,v.ownBlock=A j->¬Ψ j)/\a v
theorem mY{β:Type}(B0 b:I)(t:jr)(base:I)(e:jr)(size:I)(n:β->I)(f:β->je jh)(o:β->jh->Prop):
 bY B0 (λs Ψ W=>gP b t base e size (n s) (f s) (o s) Ψ W):=by
 rintro s Ψ a u B ⟨v,c,p,d,q,r⟩ g w i;have k:¬a b:=λh=>by rcases i _ h with h|h;exact p h;have:=c.lt;omega
 have l:∀j,v.ownBlock=A j->¬a j:=λj m h=>by
  rcases i _ h with h|h
  ·exact q j m h
  have:=(d.lt j m).2;omega
 exact⟨v,g.cells c k,k,g.row d l,l,r⟩
theorem iQ(B0 β:I)(t:jr)(f:b->jh):bY B0 (λs Ψ W=>jD W β t (f s)/\¬Ψ β):=by
 rintro s Ψ d j B ⟨a,e⟩ g k i;have c:¬d β:=λh=>by rcases i _ h with h|h;exact e h;have:=a.lt;omega
 exact⟨g.cells a c,c⟩
theorem kH(B0 n:I)(w:jc)(i:n<=w.heap.size)(j:n<=B0):bY B0 (fun(_:b) Ψ W=>jn n w W/\∀k,Ψ k->n<=k):=by
 rintro s Ψ d l B ⟨β,f⟩ a m g;have c:∀k,d k->n<=k:=λk h=>by
  rcases g _ h with h|h
  ·exact f k h
  have:=β.size;omega
 refine⟨β.trans ⟨a.os,a.tape,a.output,a.size,λk o=>?_⟩,c⟩
 rcases a.block k (cT β.size) (λh=>by have:=c k h;omega)with e|⟨h,_⟩
 ·exact e
 omega
theorem BJ{r:jE I}(h:w.drew.grownBy B r):w.grownBy B r:=⟨h.os,h.tape,h.output,h.size,h.block⟩
theorem se{a d:jc}{f b B0:I}{t e:jr}{size k m:I}{v c:jh}{xs ys:je jh}{q:Obj}{Ψ:I->Prop}
 (r:jD a b t v) (s:t≠e) (u:a.ownsRow f e size v k xs) (w:f<=a.heap.size) (y:f<=b) (i:¬Ψ b) (l:∀j,v.ownBlock=A j->¬Ψ j)
 (n:∀j,Ψ j->j<a.heap.size) (z:d.ownsRow f e size c m ys) (o:(a.alloc q).grownBy d v.ownBlock) (B:∀j,c.ownBlock=A j->v.ownBlock=A j\/j=a.heap.size+1):
 (qB B0 a (d.setCell ⟨b,0,jd⟩ c)/\jn f a (d.setCell ⟨b,0,jd⟩ c)/\∀k,Ψ k->(d.setCell ⟨b,0,jd⟩ c).heap[k]?=a.heap[k]?)/\
 gP b t f e size m ys (λx=>x=c) Ψ (d.setCell ⟨b,0,jd⟩ c):=by
 obtain⟨K,x,C,D,E⟩:=r.appended s u w y z o;refine⟨⟨D.from _,E,λk g=>?_⟩,c,x,i,C,λj F p=>?_,T⟩
 ·have H:=n k g
  rw[qd _ _ _ _ (show k≠b by rintro rfl;exact i g),o.block k (by simp;omega) (λh=>l k h.symm g),jH _ _ _ H]
 rcases B j F with h|h
 ·exact l j h p
 have:=n j p;omega
theorem fk(B0:I)(p:b->Prop):bY B0 (λs _ _=>p s):=λ_ _ _ _ _ h _ _ _=>h
def eO{α:Type}(P:jI)(g:I)(lb:jt jh)(encs:α->jt jh)(h:I->Prop)(f:I)(S i V:je α->Prop)(w:jc):Prop:=
 ∀(l:I) (c d:je α->(I->Prop)->jc->Prop) (W:jc),jn w w W->bY W.heap.size c->bY W.heap.size d->
  (∀a x Ψ b,c a Ψ b->(∀k,Ψ k->k<b.heap.size)->V (a++[x])->YieldAt Fence.wide 0 P l (encs x) b λe B=>
   (e=js (.bool jf)/\c (a++[x]) Ψ B/\jn f b B/\∀k,Ψ k->B.heap[k]?=b.heap[k]?)\/(e=js (.bool jz)/\d (a++[x]) Ψ B/\jn f b B/\∀k,Ψ k->B.heap[k]?=b.heap[k]?))->
  c [] h W->
  ju P g (#[.func (.yield l) #[] #[]]++lb) W λe B=>(∃v,e=js v)/\((∃xs Ψ,S xs/\c xs Ψ B)\/(∃a Ψ,i a/\d a Ψ B))
def zV{α:Type}(P:jI)(g:I)(lb:jt jh)(encs:α->jt jh)(h:I->Prop)(f:I)(S i:je α->Prop)(V j:je α->(I->Prop)->jc->Prop)(m:α->I->Prop)(w:jc):Prop:=
 ∀(l:I) (c d:je α->(I->Prop)->jc->Prop) (W:jc),jn w w W->bY W.heap.size c->bY W.heap.size d->(∀ys Ψ B,c ys Ψ B->j ys Ψ B)->
  (∀b x Ψ a,c b Ψ a->c b (λk=>Ψ k\/m x k) a->(∀k,Ψ k->k<a.heap.size)->V (b++[x]) Ψ a->YieldAt Fence.wide 0 P l (encs x) a λe B=>
   (e=js (.bool jf)/\c (b++[x]) Ψ B/\jn f a B/\∀k,Ψ k->B.heap[k]?=a.heap[k]?)\/(e=js (.bool jz)/\d (b++[x]) Ψ B/\jn f a B/\∀k,Ψ k->B.heap[k]?=a.heap[k]?))->
  c [] h W->
  ju P g (#[.func (.yield l) #[] #[]]++lb) W λe B=>(∃v,e=js v)/\((∃xs Ψ,S xs/\c xs Ψ B)\/(∃b Ψ,i b/\d b Ψ B))
theorem eO.v{α:Type}{P:jI}{g:I}{lb:jt jh}{encs:α->jt jh}{b:I}{S c V:je α->Prop}(h:eO P g lb encs a b S c V w):zV P g lb encs a b S c (λys _ _=>V ys) (λ_ _ _=>True) (λ_ _=>False) w:=λl e f W i j k _ m=>h l e f W i j k λn x Ψ o d=>m n x Ψ o d (ak d)
def pY{α:Type}(B0 b:I)(d:je α->(I->Prop)->jc->Prop)(c:j0->je α->(I->Prop)->jc->Prop)(xs:je α)(Ψ:I->Prop)(a:jc):jT->Act->jc->Prop
 | .normal,_,B=>(qB B0 a B/\jn b a B/\∀k,Ψ k->B.heap[k]?=a.heap[k]?)/\d xs Ψ B
 | .ret,_,B=>(qB B0 a B/\jn b a B/\∀k,Ψ k->B.heap[k]?=a.heap[k]?)/\c .ret xs Ψ B
 | .exit e,_,B=>(qB B0 a B/\jn b a B/\∀k,Ψ k->B.heap[k]?=a.heap[k]?)/\c (.exit e) xs Ψ B
 | .goto t,_,B=>(qB B0 a B/\jn b a B/\∀k,Ψ k->B.heap[k]?=a.heap[k]?)/\c (.goto t) xs Ψ B
 | .panic _,_,_=>False
 | .outgrown,_,_=>False
def yF{α:Type}(B0 b:I)(d:je α->(I->Prop)->jc->Prop)(c:j0->je α->(I->Prop)->jc->Prop)(xs:je α)(Ψ:I->Prop)(a:jc):jT->Act->jc->Prop
 | .normal,_,B=>((B.heap[B0]?=a.heap[B0]?/\B.heap[B0+1]?=a.heap[B0+1]?)/\jn b a B/\∀k,Ψ k->B.heap[k]?=a.heap[k]?)/\d xs Ψ B
 | .ret,_,B=>((B.heap[B0]?=a.heap[B0]?/\B.heap[B0+1]?=a.heap[B0+1]?)/\jn b a B/\∀k,Ψ k->B.heap[k]?=a.heap[k]?)/\c .ret xs Ψ B
 | .exit e,_,B=>((B.heap[B0]?=a.heap[B0]?/\B.heap[B0+1]?=a.heap[B0+1]?)/\jn b a B/\∀k,Ψ k->B.heap[k]?=a.heap[k]?)/\c (.exit e) xs Ψ B
 | .goto t,_,B=>((B.heap[B0]?=a.heap[B0]?/\B.heap[B0+1]?=a.heap[B0+1]?)/\jn b a B/\∀k,Ψ k->B.heap[k]?=a.heap[k]?)/\c (.goto t) xs Ψ B
 | .panic _,_,_=>False
 | .outgrown,_,_=>False
theorem iA{d:I}{o:Obj}(b:f<=d):jn f w (w.putObj d o):=
 ⟨rfl,rfl,rfl,by simp[qV],λk c=>ob Y⟩
variable {P:jI}
theorem pY.two{d:I}{c:je b->(I->Prop)->jc->Prop}{B0:j0->je b->(I->Prop)->jc->Prop}{xs:je b}{Ψ:jT}{e:Act}{r:Loop}(g:w.heap[f]?=A (.deferred (A [])))(i:w.heap[f+1]?=A (.loop r))(h:pY f d c B0 xs a w Ψ e B):yF f d c B0 xs a w Ψ e B:=by
 cases Ψ<;>first
  |exact h
  |exact⟨⟨⟨(h.1.1.same _ _ (jA _) g T).trans g.symm,(h.1.1.same _ _ (Nat.le_succ _) i T).trans i.symm⟩,h.1.2⟩,h.2⟩
theorem rD{α:Type}{g:ms}{ps:jt Tmp}{assign body:j0}{au:jT->Act->jc->Prop}{a:Act}{w:jc}{n:I}
 {gf:I} {lb:jt jh} (hg:a.eval g=.func (.func gf) #[] lb) (eg:∀args w,(qK gf args).run P w=.ok (.enter gf args) w)
 {encs:α->jt jh} {Ψ0:I->Prop} {H:I} {S Sp:je α->Prop} {V Ud:je α->(I->Prop)->jc->Prop} {Φ:α->I->Prop} (Wz:zV P gf lb encs Ψ0 H S Sp V Ud Φ w)
 (Zv:H<=w.heap.size) (ba:∀x,(encs x).size=ps.size) (Ze:∀k,Ψ0 k->k<w.heap.size)
 (i:je α->(I->Prop)->jc->Prop) (U:j0->je α->(I->Prop)->jc->Prop) (M:bY w.heap.size i) (hG:∀ys Ψ B,i ys Ψ B->Ud ys Ψ B) (X:∀c,bY w.heap.size (U c)) (h0:i [] Ψ0 w)
 (Ax:α->Act->(I->Prop)->jc->Prop) (bb:bY w.heap.size (fun(s:α×Act) Ψ W=>Ax s.1 s.2 Ψ W))
 (bc:∀(l:I) (b:je α) (x:α) (Ψ:I->Prop) (d:jc) (K:Act->jc->Prop),i b Ψ d->i b (λk=>Ψ k\/Φ x k) d->V (b++[x]) Ψ d->(∀k,Ψ k->k<d.heap.size)->
  (∀z m,jn d d m->i b Ψ m->Ax x z Ψ m->K z m)->
  assign.wpIn (Fence.wide.inRound l) 0 P (Exit.then K (λ_ _ _=>False)) {tmps:=(ps.zip (encs x)).foldl (λt (p,v)=>t.setIfInBounds p v) a.tmps,defers:=[]} d)
 (bd:∀(l:I) (b:je α) (x:α) (Ψ:I->Prop) (z:Act) (d:jc),i b Ψ d->Ax x z Ψ d->(∃o e,V (b++[x]) o e)->(∀k,Ψ k->k<d.heap.size)->w.heap.size+2<=d.heap.size->l=w.heap.size+1->d.heap[w.heap.size]?=A (.deferred (A []))->(∃r,d.heap[w.heap.size+1]?=A (.loop r))->
  body.wpIn (Fence.wide.inRound l) 0 P (yF w.heap.size H i U (b++[x]) Ψ d) z d)
 (bf:∀(D:I) (xs:je α) (Ψ:I->Prop) (W:jc),D=w.heap.size->S xs->i xs Ψ W->W.heap[D]?=A (.deferred (A []))->au .normal {a with defers:={target:=.collected D,args:=#[]}::a.defers} W)
 (bg:∀(D:I) (c:j0) (b:je α) (Ψ:I->Prop) (W:jc),D=w.heap.size->Sp b->U c b Ψ W->W.heap[D]?=A (.deferred (A []))->c.wpIn Fence.wide n P au {a with defers:={target:=.collected D,args:=#[]}::a.defers} W):
 (Code.rangeFunc g ps assign body).wpIn Fence.wide n P au a w:=by
 refine wpIn_rangeFunc ?_;intro fn bh;obtain⟨f,l⟩:∃f:LoopState->jE j0->Loop,f=λK Q=>{state:=K,pending:=Q,fn,tmps:=a.tmps,params:=ps,assign,body,defers:=w.heap.size}:=⟨_,T⟩
 obtain⟨j,R⟩:∃j,(w.alloc (.deferred (A []))).alloc (.loop (f .ready jd))=j:=⟨_,T⟩;have bv:j.heap.size=w.heap.size+2:=by rw[<-R];simp
 have bi:j.heap[w.heap.size+1]?=A (.loop (f .ready jd)):=by
  rw[<-R];have:=jO (w.alloc (.deferred (A []))) (.loop (f .ready jd));rwa [j8]at this
 have bk:j.heap[w.heap.size]?=A (.deferred (A [])):=by
  rw[<-R];exact(jH _ _ _ ar).trans (jO w _)
 have bl:i [] Ψ0 j:=by rw[<-R];exact M.keep (M.keep h0 (bL.alloc _ _ _ _)) (bL.alloc _ _ _ _)
 have bm:jn w w j:=by
  rw[<-R];exact(((jM _ w).alloc (jA _) _).alloc ar _)
 let Bk (K:LoopState) (Q:jE j0) (Ψ:I->Prop) (W:jc):Prop:=
  W.heap[w.heap.size+1]?=A (.loop (f K Q))/\W.heap[w.heap.size]?=A (.deferred (A []))/\¬Ψ w.heap.size/\¬Ψ (w.heap.size+1)
 have a4:∀K Q,bY j.heap.size (fun(_:je α) Ψ W=>Bk K Q Ψ W):=by
  rintro K Q s Ψ o d B ⟨p,q,C,D⟩ e E r;have ax:=(jQ.1 p).1;have u:¬o w.heap.size:=λh=>by rcases r _ h with h|h;exact C h;omega
  have y:¬o (w.heap.size+1):=λh=>by rcases r _ h with h|h;exact D h;omega
  refine⟨?_,?_,u,y⟩
  ·rcases e.block _ ax y with h|⟨h,_⟩
   ·exact h.trans p
   omega
  rcases e.block _ Y u with h|⟨h,_⟩
  ·exact h.trans q
  omega
 have up:∀{β:Type} {i:β->(I->Prop)->jc->Prop},bY w.heap.size i->bY j.heap.size i:=by
  intro β i h s Ψ o d B r e p q;refine h s Ψ o d B r ⟨e.os,e.tape,e.output,e.size,λk D C=>?_⟩ p q
  rcases e.block k D C with h|⟨h,u⟩
  ·exact .inl h
  exact .inr ⟨by omega,u⟩
 have bn:bY j.heap.size (fun(b:je α) Ψ W=>∃c,U c b Ψ W/\Bk .done (A c) Ψ W):=by
  rintro s Ψ o d B ⟨c,r,u⟩ e p q;exact⟨c,up (X c) s Ψ o d B r e p q,a4 _ _ s Ψ o d B u e p q⟩
 refine⟨w.heap.size+1,[{target:=.collected w.heap.size,args:=#[]}],j,{target:=.fn (.func gf) lb,args:=#[.func (.yield (w.heap.size+1)) #[] #[]]},j,gf,
  #[.func (.yield (w.heap.size+1)) #[] #[]]++lb,j,?_,?_,?_,?_,?_,?_⟩
 ·rw[<-R,l];exact run_enterLoop_outer _ _ _ _ _
 ·simp only[resolve,hg]
  simp[go_sem]
 ·intro e d;simp[Target.leads]at d;subst d;trivial
 ·simp[invoke,go_sem,eg]
 ·intro h;simp[Fence.wide]at h
 refine callsIn_wide.2 ((Wz (w.heap.size+1) (λb Ψ W=>i b Ψ W/\Bk .ready jd Ψ W) (λb Ψ W=>∃c,U c b Ψ W/\Bk .done (A c) Ψ W) j bm
  ((up M).and (a4 _ _)) bn (λys Ψ B h=>hG ys Ψ B h.1) ?_ ⟨bl,bi,bk,λh=>by have:=Ze _ h;omega,λh=>by have:=Ze _ h;omega⟩).mono ?_)
 ·
  rintro b x Ψ W ⟨hi,q,D,hd,aa⟩ ⟨bo,-⟩ ay a5;have ax:w.heap.size+1<W.heap.size:=(jQ.1 q).1;have hy:=run_yield (P:=P) (args:=encs x) q (by rw[l];exact ba x);rw[l]at hy;refine⟨fn,_,assign,body,hy,roundIn_of_wpIn bh (bc _ b x Ψ W _ hi bo a5 ay ?_)⟩;intro z m ac bp bq;have a1:m.heap[w.heap.size+1]?=A (.loop (f .ready jd)):=(ac.block _ ax).trans q;have br:m.heap[w.heap.size]?=A (.deferred (A [])):=(ac.block _ Y).trans D;have bs:w.heap.size+1<m.heap.size:=(jQ.1 a1).1;refine⟨_,run_beginRound a1 (by rw[l]),?_⟩;have a2:(m.putObj (w.heap.size+1) (.loop {f .ready jd with state:=.busy})).heap[w.heap.size+1]?=A (.loop {f .ready jd with state:=.busy}):=xx bs;have a3:(m.putObj (w.heap.size+1) (.loop {f .ready jd with state:=.busy})).heap[w.heap.size]?=A (.deferred (A [])):=(ob Y).trans br;have t2:bL w.heap.size Ψ m (m.putObj (w.heap.size+1) (.loop {f .ready jd with state:=.busy})):=bL.putObj _ a1 T Y;refine wpIn_mono (bd _ b x Ψ z _ (M.keep bp t2) (bb.keep (s:=(x,z)) bq t2) ⟨_,_,a5⟩ (λk B=>by have:=ay k B;have:=ac.size;simp[qV];omega) (by simp[qV];omega) T a3 ⟨_,a2⟩) ?_;obtain⟨r,Wh⟩:∃r,m.putObj (w.heap.size+1) (.loop {f .ready jd with state:=.busy})=r:=⟨_,T⟩;have a6:jn H W r:=by rw[<-Wh];exact(ac.mono Y).trans (iA Y)
  have bu:∀k,Ψ k->k<W.heap.size->r.heap[k]?=W.heap[k]?:=by
   intro k B E;rw[<-Wh,ob (by intro e;subst e;exact aa B),ac.block k E]
  have bw:W.heap.size<=r.heap.size:=a6.size;rw[Wh]at a2 a3⊢;have ad:∀(h:jE j0) (d:jc),((d.heap[w.heap.size]?=r.heap[w.heap.size]?/\d.heap[w.heap.size+1]?=r.heap[w.heap.size+1]?)/\jn H r d/\∀k,Ψ k->d.heap[k]?=r.heap[k]?)->
   (Instr.endRound (w.heap.size+1) h).run P d=.ok (.bool h.isNone) (d.putObj (w.heap.size+1) (.loop (f (if h.isNone then .ready else .done) h)))/\
   bL w.heap.size Ψ d (d.putObj (w.heap.size+1) (.loop (f (if h.isNone then .ready else .done) h)))/\
   Bk (if h.isNone then .ready else .done) h Ψ (d.putObj (w.heap.size+1) (.loop (f (if h.isNone then .ready else .done) h)))/\
   jn H W (d.putObj (w.heap.size+1) (.loop (f (if h.isNone then .ready else .done) h)))/\
   ∀k,Ψ k->(d.putObj (w.heap.size+1) (.loop (f (if h.isNone then .ready else .done) h))).heap[k]?=W.heap[k]?:=by
   rintro h d ⟨o,u,y⟩;have F:=o.2.trans a2;have p:=run_endRound (P:=P) h F;rw[l]at p⊢;refine⟨p,bL.putObj _ F T Y,⟨?_,(ob Y).trans (o.1.trans a3),hd,aa⟩,(a6.trans u).trans (iA Y),λk B=>?_⟩
   ·rw[l];exact xx (jQ.1 F).1
   rw[ob (by intro e;subst e;exact aa B),y k B]
   by_cases E:k<W.heap.size
   ·exact bu k B E
   exact qj (ay k B) E
  rintro e bA d C
  cases e with
  |normal=>
   obtain⟨o,B⟩:=C;obtain⟨p,E,u,F,y⟩:=ad jd d o;exact⟨_,_,p,.inl ⟨T,⟨M.keep B E,u⟩,F,y⟩⟩
  |ret=>
   obtain⟨o,B⟩:=C;obtain⟨p,E,u,F,y⟩:=ad (A .ret) d o;exact⟨_,_,p,.inr ⟨T,⟨.ret,(X _).keep B E,u⟩,F,y⟩⟩
  |exit id=>
   obtain⟨o,B⟩:=C;obtain⟨p,E,u,F,y⟩:=ad (A (.exit id)) d o;exact⟨_,_,p,.inr ⟨T,⟨.exit id,(X _).keep B E,u⟩,F,y⟩⟩
  |goto t=>
   obtain⟨o,B⟩:=C;obtain⟨p,E,u,F,y⟩:=ad (A (.goto t)) d o;exact⟨_,_,p,.inr ⟨T,⟨.goto t,(X _).keep B E,u⟩,F,y⟩⟩
  |panic o=>exact C.elim
  |outgrown=>exact C.elim
 
 rintro e k ⟨⟨v,rfl⟩,(⟨xs,Ψ,d,hi,q,D,hd,aa⟩|⟨b,Ψ,h,c,hi,q,D,hd,aa⟩)⟩
 ·exact⟨jd,_,by have:=run_endLoop (P:=P) q (by rw[l];simp);rw[l]at this;exact this,bf _ xs Ψ _ T d (M.keep hi (bL.putObj _ q T Y)) ((ob Y).trans D)⟩
 exact⟨A c,_,by have:=run_endLoop (P:=P) q (by rw[l];simp);rw[l]at this;exact this,bg _ c b Ψ _ T h ((X c).keep hi (bL.putObj _ q T Y)) ((ob Y).trans D)⟩
theorem rh{α:Type}{g:ms}{q:jt Tmp}{assign body:j0}{u:jT->Act->jc->Prop}{a:Act}{w:jc}{n:I}
 {gf:I} {lb:jt jh} (E:a.eval g=.func (.func gf) #[] lb) (F:∀args w,(qK gf args).run P w=.ok (.enter gf args) w)
 {encs:α->jt jh} {y:I->Prop} {z:I} {S C V:je α->Prop} (H:eO P gf lb encs y z S C V w)
 (M:z<=w.heap.size) (Q:∀x,(encs x).size=q.size) (R:∀k,y k->k<w.heap.size)
 (f:je α->(I->Prop)->jc->Prop) (m:j0->je α->(I->Prop)->jc->Prop) (U:bY w.heap.size f) (X:∀c,bY w.heap.size (m c)) (h0:f [] y w)
 (o:α->Act->(I->Prop)->jc->Prop) (aa:bY w.heap.size (fun(s:α×Act) Ψ W=>o s.1 s.2 Ψ W))
 (s:∀(l:I) (b:je α) (x:α) (Ψ:I->Prop) (d:jc) (K:Act->jc->Prop),f b Ψ d->V (b++[x])->
  (∀i e,jn d d e->f b Ψ e->o x i Ψ e->K i e)->
  assign.wpIn (Fence.wide.inRound l) 0 P (Exit.then K (λ_ _ _=>False)) {tmps:=(q.zip (encs x)).foldl (λt (p,v)=>t.setIfInBounds p v) a.tmps,defers:=[]} d)
 (t:∀(l:I) (b:je α) (x:α) (Ψ:I->Prop) (i:Act) (d:jc),f b Ψ d->o x i Ψ d->V (b++[x])->(∀k,Ψ k->k<d.heap.size)->w.heap.size<=d.heap.size->(∃r,d.heap[l]?=A (.loop r))->
  body.wpIn (Fence.wide.inRound l) 0 P (pY w.heap.size z f m (b++[x]) Ψ d) i d)
 (v:∀(D:I) (xs:je α) (Ψ:I->Prop) (W:jc),w.heap.size<=D->S xs->f xs Ψ W->W.heap[D]?=A (.deferred (A []))->u .normal {a with defers:={target:=.collected D,args:=#[]}::a.defers} W)
 (ac:∀(D:I) (c:j0) (b:je α) (Ψ:I->Prop) (W:jc),w.heap.size<=D->C b->m c b Ψ W->W.heap[D]?=A (.deferred (A []))->c.wpIn Fence.wide n P u {a with defers:={target:=.collected D,args:=#[]}::a.defers} W):
 (Code.rangeFunc g q assign body).wpIn Fence.wide n P u a w:=by
 refine rD E F H.v M Q R f m U (λ_ _ _ _=>trivial) X h0 o aa (λl b x Ψ d K p _ j _ e=>s l b x Ψ d K p j e) (λl b x Ψ i d p K j hΨ e h h1 k=>?_) (λD xs Ψ W e=>v D xs Ψ W (qL e.symm)) (λD c b Ψ W e=>ac D c b Ψ W (qL e.symm));obtain⟨-,-,j⟩:=j;obtain⟨r,k⟩:=k;exact wpIn_mono (t l b x Ψ i d p K j hΨ Y ⟨r,by rw[h];exact k⟩) λe a B h=>pY.two h1 k h
end
section
variable{f i:I}
section
variable {P:jI} {ops:jt jy} {Q:jT->Act->jc->Prop} {md:Region.Mode} {S:jc->Prop}
def rJ(ops:jt jy):jw:=ops.all λo=>match o.op with| .defer .. =>jz|_=>jf
theorem Q8(h:rJ ops=jf)(j:I)(o:jy)(c:Call)(a:ops[j]?=A o):o.op≠.defer c:=by
 intro b;have:=qe.1 h o (Array.mem_of_getElem? a);simp[b]at this
theorem JQ{f i d:I}(e:¬LetsOut Q)(g:rJ ops=jf){K:Act->jc->Prop}{a:Act}{w:jc}
 (h:jK P ops Q d K a w):wpOpIn (Fence.wide.inRound f) i P ops Q d K a w:=by
 unfold jK at h;unfold wpOpIn
 cases ho:ops[d]? with
 |none=>simpa [ho]using h
 |some o=>
  simp only[ho]at h⊢
  split
  ·rename_i b
   simp only[b,if_true]at h
   rcases h with h|⟨_,j⟩
   ·refine⟨λ_ _=>trivial,?_⟩
    show o.uponIn (Fence.wide.inRound f) i P a K Q ((o.semAt (A f) a.eval).run P w);rw[Oper.semAt_eq _ _ _ (λc=>Q8 g d o c ho)];unfold Oper.wp at h;generalize(jV a.eval o).run P w=r at*
    cases r with
    |ok x w'=>
     cases x<;>simp only[Oper.upon]at h<;>simp only[Oper.uponIn]
     case value u=>exact h
     case skip=>exact h
     case defer n=>exact h
     case enter l args=>exact⟨by simp[Fence.inRound,Fence.wide],CallsIn.inRound f (callsIn_wide.2 h)⟩
     case row row args=>exact⟨by simp[Fence.inRound,Fence.wide],λc k _=>by
      obtain⟨v,m,r,s⟩:=h c k;exact⟨v,m,r,stepsIn_wide.2 s⟩⟩
    |halt x w'=>cases x<;>simp only[Oper.upon]at h<;>simp only[Oper.uponIn]<;>exact h
   exact qj j e
  rename_i b;simp only[b]at h;exact⟨λ_ _=>trivial,h⟩
theorem yt{f i:I}(b:¬LetsOut Q)(c:rJ ops=jf):∀(fuel:I) (d:jt jw) (a:Act) (w:jc),
 wpAny P md ops Q fuel d a w->wpAnyIn (Fence.wide.inRound f) i P md ops Q fuel d a w
 |0,_,_,_,h=>h
 |fuel+1,_,_,_,h=>⟨h.1,λn e=>JQ b c (j1 (λl w' g=>yt b c fuel _ l w' g) (h.2 n e))⟩
def iM(md:Region.Mode)(ops:jt jy)(a:jt jw):Prop:=∀(j:I) b,ops[j]?=A b->a.getD j jz=jf->∀e∈b.after,Region.binds md e=jf->a.getD e.on jz=jf
theorem Jq{a:jt jw}(h:a.getD i jz=jf):(a.setIfInBounds f jf).getD i jz=jf:=by
 rw[qG]at h⊢;rw[Array.getElem?_setIfInBounds]
 split
 ·rename_i e
  subst e
  split
  ·rfl
  rename_i b;rw[r8 Y]at h
  cases h
 exact h
theorem iM.zero(n:I):iM md ops (qf n jz):=λj a _ h=>by
 rw[qG,Array.getElem?_replicate]at h
 split at h<;>cases h
theorem iM.set{a:jt jw}(h:iM md ops a)(g:i∈Region.ready md ops a):iM md ops (a.setIfInBounds i jf):=by
 intro j k b l e he c;refine Jq ?_
 by_cases d:j=i
 ·subst d
  obtain⟨-,o,f,m⟩:=mem_ready.1 g;rw[b]at f
  cases f
  exact m e he c
 refine h j k b ?_ e he c
 rwa [qG,xy (Ne.symm d),<-qG]at l
def oV(md:Region.Mode)(ops:jt jy):I->I->I->jw
 |0,_,_=>jz
 |n+1,j,i=>match ops[j]? with|none=>jz|some o=>o.after.any λe=>Region.binds md e&&(e.on==i||oV md ops n e.on i)
theorem Hp{a:jt jw}(c:iM md ops a){i:I}:∀(n j:I) b,ops[j]?=A b->(∀e∈b.after,Region.binds md e=jf->a.getD e.on jz=jf)->oV md ops n j i=jf->a.getD i jz=jf
 |0,_,_,_,_,h=>by cases h
 |n+1,j,b,d,f,h=>by
  rw[oV,d]at h;simp only[Array.any_eq_true',jZ,qW,beq_iff_eq]at h;obtain⟨e,he,g,h⟩:=h;have k:=f e he g
  rcases h with h|h
  ·rwa [<-h]
  cases hk:ops[e.on]? with
  |none=>cases n<;>simp[oV,hk]at h
  |some ok=>exact Hp c n e.on ok hk (c e.on ok hk k) h
def im(P:jI)(md:Region.Mode)(ops:jt jy)(Q:jT->Act->jc->Prop)(S:jc->Prop)(f:I):I->jt jw->Act->jc->Prop
 |0,b,a,w=>Region.ready md ops b=[]/\Q .normal a w
 |fuel+1,b,a,w=>iM md ops b->
  (Region.ready md ops b=[]->Q .normal a w)/\
  ∀i∈Region.ready md ops b,jK P ops Q i (λc w'=>(f<=i\/S w')/\im P md ops Q S f fuel (b.setIfInBounds i jf) c w') a w
theorem rK:∀(fuel:I) (b:jt jw) (a:Act) (w:jc),iM md ops b->im P md ops Q S f fuel b a w->wpAny P md ops Q fuel b a w
 |0,_,_,_,_,h=>h
 |fuel+1,_,_,_,c,h=>⟨(h c).1,λi d=>j1 (λe w' g=>rK fuel _ e w' (c.set d) g.2) ((h c).2 i d)⟩
def SP(P:jI)(r:Result Next)(v:jh)(w:jc):Prop:=
 r=.ok (.value v) w\/∃f args,r=.ok (.enter f args) w/\ju P f args w λe w'=>e=js v/\w'=w
def fP(P:jI)(ops:jt jy)(S:jc->Prop)(o:jy)(v:jh)(a:Act):Prop:=
 (Region.wanted o (jX ops a.tmps)=jf/\∀w,S w->SP P ((jV a.eval o).run P w) v w)\/
 (Region.wanted o (jX ops a.tmps)=jz/\v=jB)
theorem fP.wpOp{o:jy}{a:jh}{v:Act}(d:ops[f]?=A o)(g:fP P ops S o a v)
 {K:Act->jc->Prop} {w:jc} (j:S w) (h:K (v.put o.dst a) w):jK P ops Q f K v w:=by
 unfold Go.wpOp;simp only[d]
 rcases g with⟨b,k⟩|⟨b,rfl⟩
 ·simp only[b,if_true]
  refine .inl ?_;unfold Oper.wp
  rcases k w j with c|⟨i,args,c,l⟩
  ·rw[c];exact h
  rw[c];simp only[Oper.upon];refine l.mono ?_;rintro e w' ⟨rfl,rfl⟩;exact h
 simp only[b,Bool.false_eq_true,if_false];exact h
theorem fP.of_same{o:jy}{a:jh}{v b:Act}(c:fP P ops S o a v)(he:jV b.eval o=jV v.eval o)
 (d:Region.wanted o (jX ops b.tmps)=Region.wanted o (jX ops v.tmps)):fP P ops S o a b:=by
 unfold fP at*;rw[he,d];exact c
theorem MN{g:jy}(k:ops[f]?=A g){K:Act->jc->Prop}{a:Act}{w:jc}(h:jK P ops Q f K a w):
 jK P ops Q f (λc w'=>(∃d b,c=Act.put {a with defers:=d} g.dst b)/\K c w') a w:=by
 unfold jK at*;simp only[k]at*
 split
 ·rename_i i
  simp only[i,if_true]at h
  rcases h with h|h
  case inr=>exact .inr h
  refine .inl ?_;unfold Oper.wp at*;generalize(jV a.eval g).run P w=r at*
  cases r with
  |halt x w'=>cases x<;>exact h
  |ok n w'=>
   cases n<;>simp only[Oper.upon]at h⊢
   case value b=>exact⟨⟨a.defers,b,T⟩,h⟩
   case skip=>exact⟨⟨a.defers,jB,T⟩,h⟩
   case defer d=>exact⟨⟨d::a.defers,jB,T⟩,h⟩
   case enter j args=>
    refine Calls.mono h λe l he=>?_
    cases e with
    |returned b=>exact⟨⟨a.defers,b,T⟩,he⟩
    |panicked c=>exact he
    |outgrown=>exact he
   case row row args=>exact Rows.mono h λb l he=>⟨⟨a.defers,b,T⟩,he⟩
 rename_i i;simp only[i]at h;exact⟨⟨a.defers,jB,T⟩,h⟩
theorem QU{e j:jy}{a:jh}(g:ops[f]?=A j)(i:e.apart ops j=jf)
 (k:∀v b,e.op≠.select v b) (m:∀v b,j.op≠.select v b)
 (n:∀c v w,Q (.panic c) (v.put e.dst a) w->Q (.panic c) v w) {K:Act->jc->Prop} {v:Act} {w:jc}
 (c:fP P ops S e a v) (h:jK P ops Q f K (v.put e.dst a) w):
 jK P ops Q f (λb w'=>fP P ops S e a b/\K (b.put e.dst a) w') v w:=by
 have o:YieldsIf P ops (λ_=>False) e a v:=c.imp (fun⟨h,_⟩=>⟨h,λ_ h=>h.elim⟩) id;obtain⟨_,_,l⟩:=Oper.apart_spec i;refine j1 (λb w' h=>?_) (MN g (wpOp_putIf g i k m n o h));obtain⟨⟨d,b,rfl⟩,_,p⟩:=h;have q:fP P ops S e a {v with defers:=d}:=c.of_same T T;exact⟨q.of_same (execOp_put e k _ j.dst b l) (wanted_put e _ j.dst b l),p⟩
theorem vV{f:I}{q:jy}{a:jh}(y:ops[i]?=A q)(B:∀(j:I) (o:jy) r b,ops[j]?=A o->o.op≠.select r b)
 (R:∀c v d a w,Q (.panic c) (Act.put v d a) w->Q (.panic c) v w):∀(fuel:I) (g:jt jw) (v:Act) (w:jc),
  (∀j l,ops[j]?=A l->j≠i->g.getD j jf=jz->(∀e∈l.after,Region.binds md e=jf->e.on≠i)->q.apart ops l=jf)->
  (∀(j:I) l,ops[j]?=A l->f<=j->j≠i->∃n,oV md ops n j i=jf)->
  i∈Region.ready md ops g->fP P ops S q a v->S w->
  im P md ops Q S f fuel (g.setIfInBounds i jf) (v.put q.dst a) w->im P md ops Q S f (fuel+1) g v w:=by
 intro fuel
 induction fuel with
 |zero=>
  intro g v w _ _ m u s H;refine λz=>⟨λh=>(by rw[h]at m;cases m),λj x=>?_⟩
  by_cases o:j=i
  ·rw[o];exact u.wpOp y s ⟨.inr s,H⟩
  have d:=ready_mono x o;rw[H.1]at d
  cases d
 |succ fuel U=>
  intro g v w C D m u s H;refine λz=>⟨λh=>(by rw[h]at m;cases m),λj x=>?_⟩
  by_cases o:j=i
  ·rw[o];exact u.wpOp y s ⟨.inr s,H⟩
  obtain⟨E,l,t,F⟩:=mem_ready.1 x;have V:∀e∈l.after,Region.binds md e=jf->e.on≠i:=λe he W X=>by
   have d:=F e he W;have p:=(mem_ready.1 m).1;rw[X]at d
   rcases qH i g.size with k|k
   ·simp[k]at p d;rw[p]at d;cases d
   simp[r8 k]at d
  have aa:∀k ok,ops[k]?=A ok->k≠i->(g.setIfInBounds j jf).getD k jf=jz->
   (∀e∈ok.after,Region.binds md e=jf->e.on≠i)->q.apart ops ok=jf:=λk ok hk Vy K ac=>by
   refine C k ok hk Vy ?_ ac
   by_cases M:j=k
   ·rw[<-M];exact E
   rw[getD_set_ne jf M]at K;exact K
  have K:i∈Region.ready md ops (g.setIfInBounds j jf):=ready_mono m (Ne.symm o);refine j1 (λM w' h3=>?_) (QU t (C j l t o E V) (λr b=>B i q r b y) (λr b=>B j l r b t) (λc v w=>R c v _ _ w) u ((H (z.set m)).2 j (ready_mono x o)));obtain⟨ac,ad,h4⟩:=h3;have r:S w':=by
   rcases ad with c|c
   ·obtain⟨n,hn⟩:=D j l t c o
    have d:=Hp z n j l t F hn;have p:=(mem_ready.1 m).1;rw[qG]at p d
    cases hq:g[i]? with
    |none=>rw[hq]at d;cases d
    |some b=>rw[hq]at p d;simp at p d;rw[p]at d;cases d
   exact c
  refine⟨.inr r,U (g.setIfInBounds j jf) M w' aa D K ac r ?_⟩;rw[xz _ _ o];exact h4
theorem YieldsIf.q{o:jy}{v:jh}{a:Act}(h:YieldsIf P ops S o v a):fP P ops S o v a:=h.imp (fun⟨b,c⟩=>⟨b,λw d=>.inl (c w d)⟩) id
def Av(md:Region.Mode)(ops:jt jy)(f i:I):jw:=
 (List.range ops.size).all λj=>decide (j<f)||j==i||oV md ops 4 j i
theorem Fa(h:Av md ops f i=jf):∀(j:I) b,ops[j]?=A b->f<=j->j≠i->∃n,oV md ops n j i=jf:=by
 intro j b c e d;have a:=xA.1 h j (xB.2 (jQ.1 c).1);simp only[qW,decide_eq_true_eq,beq_iff_eq,d,or_false]at a
 rcases a with a|a
 ·omega
 exact⟨4,a⟩
theorem D5(j:I)(a:jy)(b:ops[j]?=A a)(h:ops.size<=j):False:=by
 have:=(jQ.1 b).1;omega
def ly(md:Region.Mode)(ops:jt jy)(f:I):je (I×jw)->jt jw->jw
 |[],a=>Region.ready md ops a==[]
 |(i,jf)::b,a=>Region.free md ops a i&&(Region.ready md ops a).contains i&&Av md ops f i&&ly md ops f b (a.setIfInBounds i jf)
 |(i,jz)::b,a=>Region.ready md ops a==[i]&&ly md ops f b (a.setIfInBounds i jf)
def yW(f:I)(l:je (I×jw)):jw:=l.all λx=> !x.2&&decide (f<=x.1)
def gE(P:jI)(ops:jt jy)(Q:jT->Act->jc->Prop)(S:jc->Prop)(f:I):je (I×jw)->Act->jc->Prop
 |[],a,w=>Q .normal a w
 |(i,jf)::b,a,w=>∃o v,ops[i]?=A o/\fP P ops S o v a/\gE P ops Q S f b (a.put o.dst v) w
 |(i,jz)::b,a,w=>jK P ops Q i (λc w'=>(f<=i/\yW f b=jf/\gE P ops Q S f b c w')\/(S w'/\(S w'->gE P ops Q S f b c w'))) a w
theorem tL{f:I}(k:Region.noSelect ops=jf)(m:∀c a d v w,Q (.panic c) (Act.put a d v) w->Q (.panic c) a w):
 ∀(l:je (I×jw)) (c:jt jw) (a:Act) (w:jc),ly md ops f l c=jf->(yW f l=jf\/S w)->gE P ops Q S f l a w->im P md ops Q S f l.length c a w
 |[],c,a,w,b,_,h=>⟨by simpa [ly]using b,h⟩
 |(i,jf)::e,c,a,w,b,g,⟨o,v,n,q,h⟩=>by
  have g:S w:=g.resolve_left (by simp[yW]);simp only[ly,jZ]at b;exact vV n (Region.noSelect_spec k) m e.length c a w (Region.free_spec n b.1.1.1) (Fa b.1.2) (ak b.1.1.2) q g (tL k m e _ _ _ b.2 (.inr g) h)
 |(i,jz)::e,c,a,w,b,g,h=>by
  simp only[ly,jZ,beq_iff_eq]at b;refine λ_=>⟨λr=>(by rw[r]at b;simp at b),λj p=>?_⟩
  obtain rfl:j=i:=by rw[b.1]at p;simpa using p
  refine j1 (λs w' d=>?_) h
  rcases d with⟨s,t,u⟩|d
  ·exact⟨.inl s,tL k m e _ _ _ b.2 (.inl t) u⟩
  exact⟨.inr d.1,tL k m e _ _ _ b.2 (.inr d.1) (d.2 d.1)⟩
theorem Nh{f:I}{a:Act}{w:jc}(S:jc->Prop)(b:I)(l:je (I×jw))(e:P.follows .mixedOrders=jf)(g:Region.noSelect ops=jf)
 (i:ly .any ops b l (qf ops.size jz)=jf) (j:l.length=ops.size) (k:∀c a d v w,Q (.panic c) (Act.put a d v) w->Q (.panic c) a w)
 (c:S w.drew) (h:gE P ops Q S b l a w.drew):(Code.region f ops jf).wp P Q a w:=
 wp_region_any e (rK _ _ _ _ (iM.zero _) (by have:=tL g k l _ a _ i (.inr c) h;rw[j]at this;exact this))
theorem RO{f i:I}{d:I}{a:Act}{w:jc}(S:jc->Prop)(r:I)(l:je (I×jw))(e:P.follows .mixedOrders=jf)(g:Region.noSelect ops=jf)(n:rJ ops=jf)
 (j:ly .any ops r l (qf ops.size jz)=jf) (k:l.length=ops.size) (m:∀c a b v w,Q (.panic c) (Act.put a b v) w->Q (.panic c) a w) (c:¬LetsOut Q)
 (b:S w.drew) (h:gE P ops Q S r l a w.drew):(Code.region d ops jf).wpIn (Fence.wide.inRound f) i P Q a w:=
 wpIn_region_any e (yt c n _ _ _ _ (rK _ _ _ _ (iM.zero _) (by have:=tL g m l _ a _ j (.inr b) h;rw[k]at this;exact this)))
theorem lH{f:I}{a:Act}{w:jc}(S:jc->Prop)(b:I)(l:je (I×jw))(e:P.follows .mixedOrders=jf)(g:Region.noSelect ops=jf)
 (i:ly .any ops b l (qf ops.size jz)=jf) (j:l.length=ops.size) (k:∀c a d w,Q (.panic c) a w->Q (.panic c) d w)
 (m:S w.drew) (h:gE P ops Q S b l a w.drew):(Code.region f ops jf).wp P Q a w:=
 Nh S b l e g i j (λc a d v w=>k c _ a w) m h
theorem Io{f i:I}{d:I}{a:Act}{w:jc}(S:jc->Prop)(r:I)(l:je (I×jw))(e:P.follows .mixedOrders=jf)(g:Region.noSelect ops=jf)(n:rJ ops=jf)
 (j:ly .any ops r l (qf ops.size jz)=jf) (k:l.length=ops.size) (m:∀c a b w,Q (.panic c) a w->Q (.panic c) b w) (o:¬LetsOut Q)
 (p:S w.drew) (h:gE P ops Q S r l a w.drew):(Code.region d ops jf).wpIn (Fence.wide.inRound f) i P Q a w:=
 RO S r l e g n j k (λc a b v w=>m c _ a w) o p h
theorem fX{f:I}{o:jy}{v:jh}{b:je (I×jw)}{a:Act}{w:jc}(c:ops[i]?=A o)(d:Region.wanted o (jX ops a.tmps)=jf)
 (e:∀w,S w->(jV a.eval o).run P w=.ok (.value v) w) (h:gE P ops Q S f b (a.put o.dst v) w):gE P ops Q S f ((i,jf)::b) a w:=
 ⟨o,v,c,.inl ⟨d,λw g=>.inl (e w g)⟩,h⟩
theorem LA{f:I}{o:jy}{b:je (I×jw)}{a:Act}{w:jc}(c:ops[i]?=A o)(d:Region.wanted o (jX ops a.tmps)=jz)
 (h:gE P ops Q S f b (a.put o.dst jB) w):gE P ops Q S f ((i,jf)::b) a w:=
 ⟨o,jB,c,.inr ⟨d,rfl⟩,h⟩
theorem dn{f:I}{o:jy}{b:je (I×jw)}{a:Act}{w:jc}(e:ops[i]?=A o)
 (h:∀c:Act->jc->Prop,Shut (∀a w,S w->(S w->gE P ops Q S f b a w)->c a w)->if Region.wanted o (jX ops a.tmps)=jf then Oper.wp P o a w c Q else c (a.put o.dst jB) w):
 gE P ops Q S f ((i,jz)::b) a w:=
 qQ e λc g=>h c (λa w d j=>g a w (.inr ⟨d,λ_=>j d⟩))
theorem pA{o:jy}{a:Act}{w:jc}(c:ops[f]?=A o)
 (h:∀b:Act->jc->Prop,Shut (∀a w,Q .normal a w->b a w)->if Region.wanted o (jX ops a.tmps)=jf then Oper.wp P o a w b Q else b (a.put o.dst jB) w):
 gE P ops Q S f [(f,jz)] a w:=
 qQ c λb d=>h b (λa w e=>d a w (.inl ⟨jA _,rfl,e⟩))
end
theorem fB{p q:Prop}(k:q)(h:q->p:=by intro k;refine fX (v:=?_) rfl (by rfl) (λW' hS=>?_) ?_;rotate_left;(go_simp;with_reducible rfl);refine L ?_;exact k):p:=h k
theorem Et{p q:Prop}(k:q)(h:q->p:=by intro k;refine fX (v:=?_) rfl (by rfl) (λW' hS=>?_) ?_;rotate_left;(clear hS;go_simp;with_reducible rfl);refine L ?_;exact k):p:=h k
theorem vG{p q:Prop}(k:q)(h:q->p:=by intro k;refine fX (v:=?_) rfl (by rfl) (λW' hS=>?_) ?_;rotate_left;(obtain⟨s0,s1,s2⟩:=hS;go_simp;with_reducible rfl);refine L ?_;exact k):p:=h k
theorem mi{p q:Prop}(k:q)(h:q->p:=by intro k;refine fX (v:=?_) rfl (by rfl) (λW' hS=>?_) ?_;rotate_left;(obtain⟨s0,s1,s2,s3⟩:=hS;go_simp;with_reducible rfl);refine L ?_;exact k):p:=h k
theorem ww{p q:Prop}(k:q)(h:q->p:=by intro k;refine fX (v:=?_) rfl (by rfl) (λW' hS=>?_) ?_;rotate_left;(obtain⟨s0,s1,s2,s3,s4⟩:=hS;go_simp;with_reducible rfl);refine L ?_;exact k):p:=h k
theorem sJ{p q:Prop}(k:q)(h:q->p:=by intro k;refine LA rfl (by rfl) ?_;refine L ?_;exact k):p:=h k
end
section
open Go.RowKit Go.Shelf
attribute [local go_sem] Oper.semAt_some
def PN:I:=4611686018427377339
theorem fl:PN=4611686018427377339:=T
theorem MO(a b:I)(f:a<PN)(g:b<PN)(w:jc):
 ju ji 222 #[ja jk a,ja jk b] w λe w'=>∃c d:I,e=js (jL #[ja jk c,ja jk d])/\c<4611686018427377339/\d<18446744073709551616/\jm (c*18446744073709551616+d=a*b)/\w=w':=by
 rw[fl]at f g;refine(BZ a b Y Y w).mono ?_;rintro e w' ⟨rfl,rfl⟩;have h:a*b<=4611686018427377338*4611686018427377338:=Nat.mul_le_mul Y Y;refine⟨_,_,T,?_,qM _ G,O (by rw[lw];exact Nat.div_add_mod _ _),T⟩;generalize a*b=m at h;omega
theorem Mw(a b:I)(f:a<4611686018427377339)(d:b<18446744073709551616)(w:jc):
 ju ji 223 #[ja jk a,ja jk b,ja jk 4611686018427377339] w λe w'=>
  ∃(q:N) (r:I),e=js (jL #[ja jk q,ja jk r])/\jm (r=(a*18446744073709551616+b)%PN)/\jn w w w':=by
 rcases qg a with rfl|h
 ·refine(div64_0 b d w).mono ?_
  rintro e w' ⟨q,rfl,c⟩;exact⟨q,_,T,O (by rw[r9,mb,fl]),c⟩
 refine(div64_1 a b h f d w).mono ?_;rintro e w' ⟨q,rfl,c⟩;exact⟨q,_,T,O (by rw[fl]),c⟩
theorem AI(a b:I)(d:a<PN)(f:b<PN)(w:jc):
 ju ji 167 #[ja jk a,ja jk b] w λe w'=>∃c:I,e=js (ja jk c)/\jm (c=a*b%PN)/\jn w w w':=by
 have g:=O (MO a b d f);clear d f
 go_enter func167,ntmps167
 go_wp2_with fail
 refine(g _).mono ?_;rintro e m ⟨h,i,rfl,d,f,j,rfl⟩;have k:=O (Mw h i d f);clear d f
 go_wp2_with fail
 refine(k _).mono ?_;rintro e n ⟨q,r,rfl,f,d⟩;have l:=O d;clear d
 go_wp2_with fail
 go_ret;exact⟨r,T,O (by rw[f,j]),l⟩
def iU(k:I):I->je jw
 |0=>[]
 |n+1=>(k/2^n%2==1)::iU k n
def pwL(a:I)(l:je jw):I:=l.foldl (λc b=>if b=jf then c*c%PN*a%PN else c*c%PN) 1
theorem yU(a:I)(l:je jw)(b:jw):pwL a (l++[b])=if b=jf then pwL a l*pwL a l%PN*a%PN else pwL a l*pwL a l%PN:=by
 simp[pwL]
theorem Gq(a:I):∀(l:je jw) (c:I),c<PN->l.foldl (λc b=>if b=jf then c*c%PN*a%PN else c*c%PN) c<PN
 |[],c,h=>h
 |b::r,c,h=>by
  rw[List.foldl_cons];refine Gq a r _ ?_
  split<;>exact qM _ (by rw[fl];decide)
theorem Pl(a:I)(l:je jw):pwL a l<PN:=Gq a l 1 (by rw[fl];decide)
theorem Q1(a m:I):a^m%PN*(a^m%PN)%PN=a^(2*m)%PN:=by
 rw[<-sh,<-Nat.pow_add,Nat.two_mul]
theorem Bf(a k:I):∀n (l:je jw) (m:I),pwL a l=a^m%PN->pwL a (l++iU k n)=a^(m*2^n+k%2^n)%PN
 |0,l,m,h=>by simp[iU,Nat.mod_one,h]
 |n+1,l,m,h=>by
  have c:=Nat.mod_pow_succ (b:=2) (k:=n) (x:=k);have e:l++iU k (n+1)=(l++[(k/2^n%2==1)])++iU k n:=by simp[iU]
  rw[e]
  rcases xC (k/2^n)with d|f
  ·rw[Bf a k n _ (2*m) (by rw[yU,d,h];simp[<-Nat.pow_add,Nat.two_mul])]
   rw[c,d,qh,Nat.mul_zero,Nat.add_zero,lw 2 m,sn,lw 2]
  rw[Bf a k n _ (2*m+1) (by
   rw[yU,f,h];simp only[beq_self_eq_true,if_true,Q1];rw[qh,sh,Nat.mod_mod,<-sh])]
  rw[c,f,qh,Nat.mul_one,Nat.add_mul,Nat.one_mul]
  congr 2
  rw[lw 2 m,sn,lw 2];omega
theorem wm(a k n:I)(b:k<2^n):pwL a (iU k n)=a^k%PN:=by
 have h:=Bf a k n [] 0 (by simp[pwL,fl]);rw[p6,r9,mb,j3 b]at h;exact h
theorem Ke(k:N)(w:jc):
 ju ji 205 #[ja jk k] w λe w'=>e=js (.func (.func 243) #[] #[jG (A ⟨w,0,jd⟩)])/\w'=w.alloc (jj #[ja jk k] 248):=by
 go_enter func205,ntmps205
 go_wp2
 go_ret;exact⟨T,T⟩
theorem Ju(k n:I)(V:k<18446744073709551616)(c:bitLen k=n)(X:n<=64)(b:I)(w:jc)(t:jD w b 248 (ja jk k)):
 eO ji 243 #[jG (A ⟨b,0,jd⟩)] (λm:jw=>#[.bool m]) (·=b) 0 (λxs=>xs=iU k n) (λ_=>True) (λ_=>True) w:=by
 intro l u Jx W d f v g o;have x:jD W b 248 (ja jk k):=(d.block b t.lt).trans t;have a:=O (ui k Y Y);rw[sq]at a;rw[c]at a;have y:=x.cell;refine(qC (n:=0)).1 ?_;refine rn func243 T trivial ?_ T;simp only[ntmps243,jW,oj,qo,qs,qt,qu,qv,qw,qx,p6,qy]
 gi_wp2_with fail
 refine⟨trivial,T,(callsIn_wide.2 (a _)).mono ?_⟩;rintro e w' ⟨rfl,rfl⟩;have hN:=O c;clear c y
 gi_wp2_with fail
 gi_loopw [3] (λs wr=>W.heap.size<=wr.heap.size/\∃(c:je jw) (j:I) (i:N),s=ja jg i/\ -1<=i/\i<=63/\jm (i=(j:N)-1)/\jm (c++iU k j=iU k n)/\u c (·=b) wr/\jD wr b 248 (ja jk k))
  (λs wr=>(jC s+1).toNat)
 case atStart=>
  exact⟨jA _,[],n,_,T,by omega,by omega,O rfl,O rfl,o,x⟩
 obtain⟨E,c,j,i,rfl,aa,ac,s,z,p,q⟩:=hrel;have y:=q.cell
 by_cases B:0<=i
 ·obtain⟨m,rfl⟩:=xD B
  have F:decide ((0:N)<=(m:N))=jf:=by simp
  obtain rfl:j=m+1:=aI s;have hm:m<=63:=Y;have r:bits .and .u64 ((k:N)/2^m) 1=((k/2^m%2:I):N):=by
   have e:(k:N)/2^m=((k/2^m:I):N):=by simp
   have h:=xE k (2^m);rw[e,show(1:N)=((1:I):N)from T,bits_and_u64_nat _ 1 Y G,Nat.and_one_is_mod]
  have H:(bits .and .u64 ((k:N)/2^m) 1==1)=(k/2^m%2==1):=by
   rw[r]
   rcases xC (k/2^m)with h|h<;>rw[h]<;>rfl
  obtain⟨C,h⟩:=J ((k/2^m%2==1));rw[<-h]at H;have K:=O h;clear r h;obtain⟨fn,tmps,assign,body,M,D⟩:=g c C (·=b) wr p (by rintro _ rfl;exact q.lt) trivial;have HJ:jm (bY W.heap.size u):=f;clear f g o v d B a
  gi_wp2
  refine⟨T,D.mono ?_⟩;rintro e P (⟨rfl,Q,h,r⟩|⟨rfl,R,h,r⟩)
  ·have S:jD P b 248 (ja jk k):=(r b T).trans q
   have U:=h.size;clear r h D M
   gi_wp2
   go_roundw
   case rel=>
    refine⟨qa E U,c++[C],m,(m:N)-1,T,by omega,by omega,O rfl,?_,Q,S⟩;exact O (by rw[<-z,K];simp[iU])
   case measure=>simp only[jC];omega
  gi_wp2
  refine o1 (nv T _ _ _) T ?_;exact⟨⟨_,T⟩,.inr ⟨_,_,trivial,R⟩⟩
 have F:=aw (0<=i);have h:j=0:=aI s;clear g o f v d a
 gi_wp2
 refine xq (nv T _ _ _) T ?_;have a:=z.out;rw[h,iU,sv]at a;rw[a]at p;exact⟨⟨_,T⟩,.inl ⟨_,p⟩⟩
end
section
open Go.RowKit Go.Shelf
attribute [local go_sem] Oper.semAt_some
theorem Fp(h:jn w w a)(c:B<=w.heap.size):qB B w a:=⟨h.size,λk o _ b _=>(h.block k (jQ.1 b).1).trans b⟩
theorem DU(a k:I)(ha:a<PN)(g:k<18446744073709551616)(w:jc):
 ju ji 153 #[ja jk a,ja jk k] w λe w'=>∃c:I,e=js (ja jk c)/\jm (c=a^k%PN)/\jn w w w':=by
 have M:bitLen k<=64:=by
  by_cases b:k=0
  ·subst b;decide
  have h:=(bitLen_spec k).2 b
  rcases qH 64 (bitLen k)with d|d
  ·have f:2^64<=2^(bitLen k-1):=sx G Y
   omega
  exact d
 obtain⟨n,B⟩:∃n,bitLen k=n:=⟨_,T⟩;rw[B]at M;have HP:=O (wm a k n (by rw[<-B];exact(bitLen_spec k).1));have HA:=O ha;refine(qC (n:=0)).1 ?_;refine xr func153 T trivial ?_ T;simp only[ntmps153,jW,oj,qo,qs,qt,qu,qv,qw,qx,p6,qy]
 gi_wp2_with fail
 refine⟨trivial,T,(callsIn_wide.2 (Ke _ _)).mono ?_⟩;rintro e w' ⟨rfl,rfl⟩
 gi_wp2_with fail
 obtain⟨d,b⟩:=J (((w.alloc (jj #[ja jk a] 248)).alloc (jj #[ja jk 1] 248)).alloc (jj #[ja jk k] 248));have bA:jD d w.heap.size 248 (ja jk a):=by rw[b];exact((Boxed.new w _ _).alloc _).alloc _
 have bC:jD d (w.heap.size+1) 248 (ja jk (1:I)):=by
  have:=Boxed.new (w.alloc (jj #[ja jk a] 248)) 248 (ja jk (1:I));rw[j8]at this;rw[b];exact this.alloc _
 have P:jD d (w.heap.size+1+1) 248 (ja jk k):=by
  have:=Boxed.new ((w.alloc (jj #[ja jk a] 248)).alloc (jj #[ja jk 1] 248)) 248 (ja jk k);rw[j8,j8]at this;rw[b];exact this
 have bB:jn w w d:=by rw[b];exact(((jM _ w).alloc (jA _) _).alloc ar _).alloc (by simp;omega) _
 have a5:w.heap.size+3<=d.heap.size:=by rw[b];simp
 rw[<-b];clear b;refine rh (n:=0) (gf:=243) (lb:=#[jG (A ⟨w.heap.size+1+1,0,jd⟩)]) T (enters_of func243 af T)
  (Ju k n g B M (w.heap.size+1+1) d P) (qi _) (λ_=>rfl) (by rintro k rfl;exact P.lt)
  (λf Ψ W=>(jD W (w.heap.size+1) 248 (ja jk (pwL a f:I))/\¬Ψ (w.heap.size+1))/\(jD W w.heap.size 248 (ja jk a)/\¬Ψ w.heap.size)/\(jn w w W/\∀k,Ψ k->w.heap.size<=k))
  (λ_ _ _ _=>False)
  ((iQ d.heap.size (w.heap.size+1) 248 (λf=>jb .u64 (pwL a f:I))).and ((iQ _ _ _ (λ_=>_)).and (kH _ _ w (jA _) Y)))
  (λ_=>fk _ _)
  ⟨⟨bC,by omega⟩,⟨bA,by omega⟩,bB,by rintro k rfl;omega⟩
  (λx Q _ _=>Q={tmps:=#[ja jk a,ja jk k,jG (A ⟨w,0,jd⟩),jB,ja jk 0,jG (A ⟨w.heap.size+1,0,jd⟩),.bool x,ja jk k,
   .func (.func 243) #[] #[jG (A ⟨w.heap.size+1+1,0,jd⟩)],.bool x,jB,jB,jB,jB,jB,jB,jB,jB],defers:=[]}) (fk _ _)
  ?assign ?body ?done ?stop
 case assign=>
  intro l f x Ψ r K b _ C
  gi_wp2
  exact C _ _ (jM _ _) b T
 case body=>
  rintro l f x Ψ Q r ⟨⟨i,s⟩,⟨R,S⟩,t,E⟩ rfl _ U V a6;have b:=Pl a f;have j:=yU a f x;generalize pwL a f=c at i b j;have hc:=i.cell;have ba:=i.frozen;have o:=O (AI c c b b);have X:=O j;have YA:=O t;clear j b t
  gi_wp2_with fail
  refine⟨trivial,T,(CallsIn.inRound l (callsIn_wide.2 (o _))).mono ?_⟩;rintro e j ⟨b,rfl,D,m⟩;have F:jD j (w.heap.size+1) 248 (ja jk c):=(m.block _ i.lt).trans i;have aa:jD j w.heap.size 248 (ja jk a):=(m.block _ R.lt).trans R;have v:jD (j.setCell ⟨w.heap.size+1,0,jd⟩ (ja jk b)) (w.heap.size+1) 248 (ja jk b):=F.set _;have y:jD (j.setCell ⟨w.heap.size+1,0,jd⟩ (ja jk b)) w.heap.size 248 (ja jk a):=aa.other Y _;have q:qB d.heap.size r j:=Fp m V;have u:=O (q.trans ((KeepsOthers.setCell j ⟨w.heap.size+1,0,jd⟩ (ja jk b)).from _));have z:=O (sy (m.mono (show w.heap.size<=r.heap.size by omega)) (p:=⟨w.heap.size+1,0,jd⟩) ar (ja jk b));have H:jm (∀k,Ψ k->(j.setCell ⟨w.heap.size+1,0,jd⟩ (ja jk b)).heap[k]?=r.heap[k]?):=λk g=>by
   rw[qd _ _ _ _ (by rintro rfl;exact s g)];exact m.block _ (U k g)
  have Vr:=F.cell;have ac:=F.frozen;clear q m o
  cases x
  ·gi_wp2
   refine⟨⟨u,z.mono (qi _),H⟩,⟨?_,s⟩,⟨y,S⟩,YA.trans z,E⟩;have e:(if jz=jf then c*c%PN*a%PN else c*c%PN)=b:=by rw[j5 G,D]
   rw[X,e];exact v
  have ad:b<PN:=by rw[D];exact qM _ (by rw[fl];decide)
  have YB:=O (AI b a ad HA);obtain⟨A2,m⟩:=J (j.setCell ⟨w.heap.size+1,0,jd⟩ (ja jk b));have au:=O m;have o:=aa.cell;clear m
  gi_wp2_with fail
  rw[<-au]at v y u z H⊢;clear Vr ac o;refine⟨trivial,T,(CallsIn.inRound l (callsIn_wide.2 (YB _))).mono ?_⟩;rintro e o ⟨m,rfl,Uy,q⟩;have K:jD o (w.heap.size+1) 248 (ja jk b):=(q.block _ v.lt).trans v;have ax:jD o w.heap.size 248 (ja jk a):=(q.block _ y.lt).trans y;have ay:jD (o.setCell ⟨w.heap.size+1,0,jd⟩ (ja jk m)) (w.heap.size+1) 248 (ja jk m):=K.set _;have a1:jD (o.setCell ⟨w.heap.size+1,0,jd⟩ (ja jk m)) w.heap.size 248 (ja jk a):=ax.other Y _;have a2:d.heap.size<=A2.heap.size:=qa V u.size;have a3:=O ((u.trans (Fp q a2)).trans ((KeepsOthers.setCell o ⟨w.heap.size+1,0,jd⟩ (ja jk m)).from _));have Uq:=O (z.trans (sy (q.mono (show w.heap.size<=A2.heap.size by omega)) (p:=⟨w.heap.size+1,0,jd⟩) ar (ja jk m)));have a4:jm (∀k,Ψ k->(o.setCell ⟨w.heap.size+1,0,jd⟩ (ja jk m)).heap[k]?=r.heap[k]?):=λk g=>by
   rw[qd _ _ _ _ (by rintro rfl;exact s g)];exact(q.block _ (qz (U k g) u.size)).trans (H k g)
  have Vr:=K.cell;have ac:=K.frozen;clear q YB
  gi_wp2
  refine⟨⟨a3,Uq.mono (qi _),a4⟩,⟨?_,s⟩,⟨a1,S⟩,YA.trans Uq,E⟩;have e:∀(p:Prop) [Decidable p],p->(if p then c*c%PN*a%PN else c*c%PN)=m:=λp _ h=>by rw[o8 h,Uy,D]
  rw[X,e _ (by trivial)];exact ay
 case done=>
  rintro D xs Ψ W j rfl ⟨⟨i,s⟩,-,t,E⟩ C;rw[HP]at i;have hc:=i.cell;have b:=O t;clear t
  gi_wp2
  refine⟨by simp,.inl ⟨_,_,T,qD C,?_⟩⟩;exact⟨_,results_tmp T _ _ _,_,T,O T,b.trans (iA Y)⟩
 intro D c f Ψ W _ _ h;exact h.elim
end
def QN:I:=2305843009213688669
def bJ(n:N):Prop:=1<=n/\n<4611686018427377339/\n.toNat^QN%PN=1
noncomputable def cS(n:N):N:=by classical exact if bJ n then 0 else 40
theorem gD{j:N}(h:bJ j):cS j=0:=by unfold cS;rw[o8 h]
theorem kZ{n:N}(h:¬bJ n):cS n=40:=by unfold cS;rw[j5 h]
theorem Mb(a:I)(b:a<PN)(w:jc):
 ju ji 153 #[ja jk a,ja jk 2305843009213688669] w λe w'=>∃c:I,e=js (ja jk c)/\jm (c=a^QN%PN)/\jn w w w':=by
 have h:=DU a QN b (by unfold QN;decide) w;rw[show((QN:I):N)=2305843009213688669 from T]at h;exact h
theorem gA(n:N)(w:jc):
 ju ji 97 #[ja jg n] w λe w'=>e=js (ja jg (cS n))/\jn w w w':=by
 by_cases p:n<1
 ·have i:=az (n<1)
  have b:=O (kZ (n:=n) (λh=>by unfold bJ at h;omega))
  go_enter func97,ntmps97
  go_wp2
  go_ret;exact⟨by rw[b];rfl,jM _ _⟩
 have i:=aw (n<1)
 by_cases q:4611686018427377339<=n
 ·have hd2:=az (4611686018427377339<=n)
  have b:=O (kZ (n:=n) (λh=>by unfold bJ at h;omega))
  go_enter func97,ntmps97
  go_wp2
  go_ret;exact⟨by rw[b];rfl,jM _ _⟩
 have hd2:=aw (4611686018427377339<=n);obtain⟨m,rfl⟩:=xD (show 0<=n by omega);have j:=O (Mb m (by rw[fl];omega));have b:jm (m^QN%PN=1->cS m=0):=O λh=>gD ⟨by omega,by omega,by rw[sq];exact h⟩
 have k:jm (m^QN%PN≠1->cS m=40):=O λh=>kZ (λg=>h (by have:=g.2.2;rwa [sq]at this))
 go_enter func97,ntmps97
 go_wp2_with fail
 refine(j _).mono ?_;rintro e r ⟨c,rfl,f,a⟩;have g:=O a;clear a
 by_cases a:c=1
 ·have l:((c:N)==1)=jf:=by rw[a];rfl
  have o:((c:N)!=1)=jz:=by rw[a];rfl
  have d:=O a;clear a
  go_wp2
  go_ret;exact⟨by rw[b.out (by rw[<-f,d])];rfl,g⟩
 have l:((c:N)==1)=jz:=by simpa using λh=>a Y
 have o:((c:N)!=1)=jf:=by simpa using λh=>a Y
 have d:=O a;clear a
 go_wp2
 go_ret;exact⟨by rw[k.out (by rw[<-f];exact d)];rfl,g⟩
section
variable{i:I}
section
variable {P:jI} {ops:jt jy} {Q:jT->Act->jc->Prop} {md:Region.Mode} {S:jc->Prop}
inductive bE where
 |done:bE
 |take (i:I) (r:bE):bE
 |one (i:I) (r:bE):bE
 |two (i j:I) (x y:bE):bE
 |float (i:I) (ks:je I) (r:bE):bE
def bE.len:bE->I
 | .done=>0
 | .take _ r=>r.len+1
 | .one _ r=>r.len+1
 | .two _ _ x y=>max x.len y.len+1
 | .float _ a r=>a.length+r.len+1
def nS(ops:jt jy)(i k:I):jw:=
 match ops[i]?,ops[k]? with
 |some a,A ok=>a.apart ops ok
 |_,_=>jz
def wS(md:Region.Mode)(ops:jt jy)(i:I)(r:jt jw->jw):je I->jt jw->jw
 |[],a=>r a
 |k::b,a=>Region.ready md ops a==[k]&&nS ops i k&&wS md ops i r b (a.setIfInBounds k jf)
def td(md:Region.Mode)(ops:jt jy)(i:I)(r:jt jw->jw):je I->jt jw->jw
 |[],a=>Region.ready md ops a==[i]&&r (a.setIfInBounds i jf)
 |k::b,a=>(Region.ready md ops a==[i,k]||Region.ready md ops a==[k,i])&&td md ops i r b (a.setIfInBounds k jf)&&wS md ops i r (k::b) (a.setIfInBounds i jf)
def gz(md:Region.Mode)(ops:jt jy):bE->jt jw->jw
 | .done,a=>Region.ready md ops a==[]
 | .take i r,a=>Region.free md ops a i&&(Region.ready md ops a).contains i&&gz md ops r (a.setIfInBounds i jf)
 | .one i r,a=>Region.ready md ops a==[i]&&gz md ops r (a.setIfInBounds i jf)
 | .two i j x y,a=>Region.ready md ops a==[i,j]&&gz md ops x (a.setIfInBounds i jf)&&gz md ops y (a.setIfInBounds j jf)
 | .float i b r,a=>td md ops i (gz md ops r) b a
def bE.tail(f:I):bE->jw
 | .done=>jf
 | .one i r=>decide (f<=i)&&r.tail f
 |_=>jz
def bE.waits(md:Region.Mode)(ops:jt jy)(f:I):bE->jw
 | .done=>jf
 | .take i r=>Av md ops f i&&r.waits md ops f
 | .one _ r=>r.waits md ops f
 | .two _ _ x y=>x.waits md ops f&&y.waits md ops f
 | .float _ _ r=>r.waits md ops f
def cX(P:jI)(ops:jt jy)(Q:jT->Act->jc->Prop)(S:jc->Prop)(f:I):bE->Act->jc->Prop
 | .done,a,w=>Q .normal a w
 | .take i r,a,w=>∃o v,ops[i]?=A o/\fP P ops S o v a/\cX P ops Q S f r (a.put o.dst v) w
 | .one i r,a,w=>jK P ops Q i (λb w'=>(f<=i/\r.tail f=jf/\cX P ops Q S f r b w')\/(S w'/\(S w'->cX P ops Q S f r b w'))) a w
 | .two i j x y,a,w=>jK P ops Q i (λb w'=>(f<=i/\x.tail f=jf/\cX P ops Q S f x b w')\/(S w'/\(S w'->cX P ops Q S f x b w'))) a w/\jK P ops Q j (λb w'=>(f<=j/\y.tail f=jf/\cX P ops Q S f y b w')\/(S w'/\(S w'->cX P ops Q S f y b w'))) a w
 | .float i e r,a,w=>∃(o:jy) (c:I->Act->jc->jE jh->Prop),ops[i]?=A o/\c 0 a w jd/\(∀j a w d,c j a w d->S w)/\
  (∀(j k:I),e[j]?=A k->∀a w d,c j a w d->jK P ops Q k (λb w'=>c (j+1) b w' d) a w)/\
  (∀j,j<=e.length->∀a w,c j a w jd->jK P ops Q i (λb w'=>∃v,b=a.put o.dst v/\c j a w' (A v)) a w)/\
  (∀a w v,c e.length a w (A v)->cX P ops Q S f r (a.put o.dst v) w)
def eK(P:jI)(ops:jt jy)(Q:jT->Act->jc->Prop)(S:jc->Prop):bE->Act->jc->Prop
 | .done,a,w=>Q .normal a w
 | .take i r,a,w=>∃o v,ops[i]?=A o/\fP P ops S o v a/\eK P ops Q S r (a.put o.dst v) w
 | .one i r,a,w=>jK P ops Q i (λb w'=>S w'/\(S w'->eK P ops Q S r b w')) a w
 | .two i j x y,a,w=>jK P ops Q i (λb w'=>S w'/\(S w'->eK P ops Q S x b w')) a w/\jK P ops Q j (λb w'=>S w'/\(S w'->eK P ops Q S y b w')) a w
 | .float i e r,a,w=>∃(o:jy) (c:I->Act->jc->jE jh->Prop),ops[i]?=A o/\c 0 a w jd/\(∀j a w d,c j a w d->S w)/\
  (∀(j k:I),e[j]?=A k->∀a w d,c j a w d->jK P ops Q k (λb w'=>c (j+1) b w' d) a w)/\
  (∀j,j<=e.length->∀a w,c j a w jd->jK P ops Q i (λb w'=>∃v,b=a.put o.dst v/\c j a w' (A v)) a w)/\
  (∀a w v,c e.length a w (A v)->eK P ops Q S r (a.put o.dst v) w)
theorem eK.toF:∀(t:bE) (a:Act) (w:jc),eK P ops Q S t a w->cX P ops Q S i t a w
 | .done,_,_,h=>h
 | .take f r,a,w,⟨o,v,c,d,e⟩=>⟨o,v,c,d,toF r _ _ e⟩
 | .one f r,a,w,h=>j1 (λg w' h=>.inr ⟨h.1,λb=>toF r _ _ (h.2 b)⟩) h
 | .two f j x y,a,w,h=>⟨j1 (λg w' h=>.inr ⟨h.1,λb=>toF x _ _ (h.2 b)⟩) h.1,j1 (λg w' h=>.inr ⟨h.1,λb=>toF y _ _ (h.2 b)⟩) h.2⟩
 | .float f m r,a,w,⟨o,b,c,d,e,g,k,l⟩=>⟨o,b,c,d,e,g,k,λa w v h=>toF r _ _ (l a w v h)⟩
theorem zu{j:I}{i g:jy}{v:jh}(s:ops[j]?=A g)(t:i.apart ops g=jf)(p:∀a b,g.op≠.select a b)
 (q:∀c a e w,Q (.panic c) a w->Q (.panic c) e w) {K:Act->jc->Prop} {a:Act} {w:jc} (h:jK P ops Q j K a w):
 jK P ops Q j (λk w'=>∃e,k=e.put i.dst v/\K e w') (a.put i.dst v) w:=by
 obtain⟨m,k,z⟩:=Oper.apart_spec t;unfold jK at*;simp only[s]at*;rw[wanted_put g a i.dst v m]
 split
 ·rename_i o
  simp only[o,if_true]at h
  rcases h with h|⟨u,y⟩
  case inr=>exact .inr ⟨by unfold Oper.asks at*;rw[execOp_put g p a i.dst v m];exact u,y⟩
  refine .inl ?_;unfold Oper.wp at*;rw[execOp_put g p a i.dst v m];generalize(jV a.eval g).run P w=r at*
  cases r with
  |ok n w'=>
   cases n<;>simp only[Oper.upon]at h⊢
   case value l=>exact⟨_,Act.put_comm a v l k,h⟩
   case skip=>exact⟨_,Act.put_comm a v jB k,h⟩
   case defer d=>
    exact⟨_,(jv (λb=>Act.put b g.dst jB) (Act.put_defers a i.dst v d)).trans (Act.put_comm _ v jB k),h⟩
   case enter f args=>
    refine Calls.mono h λe b he=>?_
    cases e with
    |returned l=>exact⟨_,Act.put_comm a v l k,he⟩
    |panicked c=>exact q _ _ _ _ he
    |outgrown=>exact he
   case row row args=>exact Rows.mono h λl b he=>⟨_,Act.put_comm a v l k,he⟩
  |halt x w'=>
   cases x<;>simp only[Oper.upon]at h⊢
   case panic l=>exact q _ _ _ _ h
 rename_i o;simp only[o]at h;exact⟨_,Act.put_comm a v jB k,h⟩
theorem z6{f:I}{a:jy}(b:ops[i]?=A a)(h:nS ops i f=jf):∃ok,ops[f]?=A ok/\a.apart ops ok=jf:=by
 unfold nS at h;rw[b]at h
 cases hk:ops[f]? with
 |none=>rw[hk]at h;cases h
 |some ok=>rw[hk]at h;exact⟨ok,T,h⟩
theorem DX(u:Region.noSelect ops=jf)(y:∀c a l w,Q (.panic c) a w->Q (.panic c) l w){f i:I}{o:jy}(z:ops[i]?=A o){r:jt jw->jw}{n B:I}{p:I->Act->jc->jE jh->Prop}
 (C:∀j a w e,p j a w e->S w) (D:∀fuel d a w v,B<=fuel->r d=jf->p n a w (A v)->im P md ops Q S f fuel d (a.put o.dst v) w):
 ∀(g:je I) (j fuel:I) (d:jt jw) (a:Act) (w:jc) (v:jh),g.length+B<=fuel->wS md ops i r g d=jf->j+g.length=n->
  (∀(m k:I),g[m]?=A k->∀a w e,p (j+m) a w e->jK P ops Q k (λl w'=>p (j+m+1) l w' e) a w)->p j a w (A v)->im P md ops Q S f fuel d (a.put o.dst v) w
 |[],j,fuel,d,a,w,v,q,c,s,_,t=>by
  obtain rfl:j=n:=ak s;exact D _ _ _ _ _ (ak q) c t
 |k::g,j,fuel,d,a,w,v,q,c,s,E,t=>by
  cases fuel with
  |zero=>simp at q
  |succ fuel=>
   simp only[wS,jZ,beq_iff_eq]at c;obtain⟨ok,F,K⟩:=z6 z c.1.2;refine λ_=>⟨λM=>(by rw[M]at c;simp at c),λx H=>?_⟩
   obtain rfl:x=k:=by rw[c.1.1]at H;simpa using H
   refine j1 (λb w' R=>?_) (zu (v:=v) F K (λh b=>Region.noSelect_spec u x ok h b F) y (E 0 x ar a w (A v) t));obtain⟨l,rfl,b⟩:=R;refine⟨.inr (C _ _ _ _ b),DX u y z C D g (j+1) fuel _ l w' v (by simp at q;omega) c.2 (by simp at s;omega) (λm k U a w e h=>?_) b⟩;have:=E (m+1) k (ak U) a w e (by rw[show j+(m+1)=j+1+m by omega];exact h);rw[show j+(m+1)=j+1+m by omega]at this;exact this
theorem BU(F:Region.noSelect ops=jf)(H:∀c a d w,Q (.panic c) a w->Q (.panic c) d w){f i:I}{o:jy}(K:ops[i]?=A o){r:jt jw->jw}{n M:I}{e:I->Act->jc->jE jh->Prop}
 (t:∀j a w p,e j a w p->S w) (z:∀fuel g a w v,M<=fuel->r g=jf->e n a w (A v)->im P md ops Q S f fuel g (a.put o.dst v) w)
 (B:∀j,j<=n->∀a w,e j a w jd->jK P ops Q i (λd w'=>∃v,d=a.put o.dst v/\e j a w' (A v)) a w):
 ∀(l:je I) (j fuel:I) (g:jt jw) (a:Act) (w:jc),l.length+M+1<=fuel->td md ops i r l g=jf->j+l.length=n->
  (∀(m k:I),l[m]?=A k->∀a w p,e (j+m) a w p->jK P ops Q k (λd w'=>e (j+m+1) d w' p) a w)->e j a w jd->im P md ops Q S f fuel g a w
 |[],j,fuel,g,a,w,q,b,u,_,y=>by
  obtain rfl:j=n:=ak u
  cases fuel with
  |zero=>simp at q
  |succ fuel=>
   simp only[td,jZ,beq_iff_eq]at b;refine λ_=>⟨λC=>(by rw[C]at b;simp at b),λx c=>?_⟩
   obtain rfl:x=i:=by rw[b.1]at c;simpa using c
   refine j1 (λR w' s=>?_) (B j (jA _) a w y);obtain⟨v,rfl,h⟩:=s;exact⟨.inr (t _ _ _ _ h),z _ _ _ _ _ (by simp at q;omega) b.2 h⟩
 |k::l,j,fuel,g,a,w,q,b,u,D,y=>by
  cases fuel with
  |zero=>simp at q
  |succ fuel=>
   simp only[td,jZ,qW,beq_iff_eq]at b;refine λ_=>⟨λC=>(by rw[C]at b;simp at b),λx c=>?_⟩
   have U:x=i\/x=k:=by
    rcases b.1.1 with E|E
    ·rw[E]at c;simpa using c
    rw[E]at c;simp at c;exact c.symm
   rcases U with rfl|rfl
   ·refine j1 (λR w' s=>?_) (B j Y a w y)
    obtain⟨v,rfl,h⟩:=s;exact⟨.inr (t _ _ _ _ h),DX F H K t z (k::l) j fuel _ a w' v (by simp at q⊢;omega) b.2 u D h⟩
   refine j1 (λd w' s=>?_) (D 0 x ar a w jd y);refine⟨.inr (t _ _ _ _ s),BU F H K t z B l (j+1) fuel _ d w' (by simp at q;omega) b.1.2 (by simp at u;omega) (λm k v a w p h=>?_) s⟩;have:=D (m+1) k (ak v) a w p (by rw[show j+(m+1)=j+1+m by omega];exact h);rw[show j+(m+1)=j+1+m by omega]at this;exact this
theorem kC{i:I}(p:Region.noSelect ops=jf)(q:∀c a B w,Q (.panic c) a w->Q (.panic c) B w):
 ∀(t:bE) (fuel:I) (l:jt jw) (a:Act) (w:jc),t.len<=fuel->gz md ops t l=jf->t.waits md ops i=jf->(t.tail i=jf\/S w)->cX P ops Q S i t a w->im P md ops Q S i fuel l a w
 | .done,fuel,l,a,w,_,b,_,_,h=>by
  have d:Region.ready md ops l=[]:=by simpa [gz]using b
  cases fuel with
  |zero=>exact⟨d,h⟩
  |succ n=>exact λ_=>⟨λ_=>h,λf e=>by rw[d]at e;cases e⟩
 | .take f r,fuel,l,a,w,e,b,g,s,⟨o,v,C,E,h⟩=>by
  have s:S w:=s.resolve_left (by simp[bE.tail]);simp only[bE.waits,jZ]at g
  cases fuel with
  |zero=>simp[bE.len]at e
  |succ n=>
   simp only[gz,jZ]at b;refine vV C (Region.noSelect_spec p) (λc a d v w=>q c _ a w) n l a w (Region.free_spec C b.1.1) (Fa g.1) (ak b.1.2) E s (kC p q r n _ _ _ (by simp[bE.len]at e;omega) b.2 g.2 (.inr s) h)
 | .one f r,fuel,l,a,w,e,b,g,s,h=>by
  cases fuel with
  |zero=>simp[bE.len]at e
  |succ n=>
   simp only[gz,jZ,beq_iff_eq]at b;refine λ_=>⟨λD=>(by rw[D]at b;simp at b),λj d=>?_⟩
   obtain rfl:j=f:=by rw[b.1]at d;simpa using d
   refine j1 (λB w' c=>?_) h
   rcases c with⟨m,u,z⟩|c
   ·exact⟨.inl m,kC p q r n _ _ _ (by simp[bE.len]at e;omega) b.2 g (.inl u) z⟩
   exact⟨.inr c.1,kC p q r n _ _ _ (by simp[bE.len]at e;omega) b.2 g (.inr c.1) (c.2 c.1)⟩
 | .two f k x y,fuel,l,a,w,e,b,g,s,h=>by
  simp only[bE.waits,jZ]at g
  cases fuel with
  |zero=>simp[bE.len]at e
  |succ n=>
   simp only[gz,jZ,beq_iff_eq]at b;refine λ_=>⟨λD=>(by rw[D]at b;simp at b),λj d=>?_⟩
   rw[b.1.1]at d;have F:j=f\/j=k:=ak d
   rcases F with rfl|rfl
   ·refine j1 (λB w' c=>?_) h.1
    rcases c with⟨m,u,z⟩|c
    ·exact⟨.inl m,kC p q x n _ _ _ (by simp[bE.len]at e;omega) b.1.2 g.1 (.inl u) z⟩
    exact⟨.inr c.1,kC p q x n _ _ _ (by simp[bE.len]at e;omega) b.1.2 g.1 (.inr c.1) (c.2 c.1)⟩
   refine j1 (λB w' c=>?_) h.2
   rcases c with⟨m,u,z⟩|c
   ·exact⟨.inl m,kC p q y n _ _ _ (by simp[bE.len]at e;omega) b.2 g.2 (.inl u) z⟩
   exact⟨.inr c.1,kC p q y n _ _ _ (by simp[bE.len]at e;omega) b.2 g.2 (.inr c.1) (c.2 c.1)⟩
 | .float f d r,fuel,l,a,w,e,b,g,s,⟨o,K,C,c,j,u,z,B⟩=>by
  have D:d.length+r.len+1<=fuel:=e;exact BU (n:=d.length) p q C j (λfuel l a w v e b c=>kC p q r fuel l _ _ e b g (.inr (j _ _ _ _ c)) (B _ _ _ c)) z d 0 fuel l a w D b Y (λm k F a w H h=>by rw[mb]at h⊢;exact u m k F a w H h) c
theorem fM{i:I}{a:Act}{w:jc}(S:jc->Prop)(f:I)(t:bE)(d:P.follows .mixedOrders=jf)(e:Region.noSelect ops=jf)
 (g:gz .any ops t (qf ops.size jz)=jf) (b:t.waits .any ops f=jf) (j:t.len<=ops.size) (k:∀c a h w,Q (.panic c) a w->Q (.panic c) h w)
 (c:S w.drew) (h:cX P ops Q S f t a w.drew):(Code.region i ops jf).wp P Q a w:=
 wp_region_any d (rK _ _ _ _ (iM.zero _) (kC e k t _ _ _ _ j g b (.inr c) h))
theorem bE.waits_size:∀t:bE,t.waits md ops ops.size=jf
 | .done=>rfl
 | .take i r=>by
  simp only[bE.waits,jZ];refine⟨xA.2 λj a=>?_,waits_size r⟩;simp[xB.1 a]
 | .one _ r=>waits_size r
 | .two _ _ x y=>by simp only[bE.waits,jZ];exact⟨waits_size x,waits_size y⟩
 | .float _ _ r=>waits_size r
theorem IK{i:I}{a:Act}{w:jc}(S:jc->Prop)(t:bE)(d:P.follows .mixedOrders=jf)(e:Region.noSelect ops=jf)
 (f:gz .any ops t (qf ops.size jz)=jf) (g:t.len<=ops.size) (b:∀c a h w,Q (.panic c) a w->Q (.panic c) h w)
 (c:S w.drew) (h:eK P ops Q S t a w.drew):(Code.region i ops jf).wp P Q a w:=
 fM S ops.size t d e f (bE.waits_size t) g b c (eK.toF t _ _ h)
theorem R5{o:jy}{a:jh}{r:bE}{v:Act}{w:jc}(b:ops[i]?=A o)(c:Region.wanted o (jX ops v.tmps)=jf)
 (d:∀w,S w->(jV v.eval o).run P w=.ok (.value a) w) (h:eK P ops Q S r (v.put o.dst a) w):eK P ops Q S (.take i r) v w:=
 ⟨o,a,b,.inl ⟨c,λw e=>.inl (d w e)⟩,h⟩
theorem Mm{o:jy}{r:bE}{a:Act}{w:jc}(b:ops[i]?=A o)(c:Region.wanted o (jX ops a.tmps)=jz)
 (h:eK P ops Q S r (a.put o.dst jB) w):eK P ops Q S (.take i r) a w:=
 ⟨o,jB,b,.inr ⟨c,rfl⟩,h⟩
theorem MC{o:jy}{r:bE}{a:Act}{w:jc}(d:ops[i]?=A o)
 (h:∀b:Act->jc->Prop,Shut (∀a w,S w->(S w->eK P ops Q S r a w)->b a w)->if Region.wanted o (jX ops a.tmps)=jf then Oper.wp P o a w b Q else b (a.put o.dst jB) w):
 eK P ops Q S (.one i r) a w:=
 qQ d λb e=>h b (λa w c f=>e a w ⟨c,λ_=>f c⟩)
theorem Sx{o:jy}{a:jh}{r:bE}{v:Act}{w:jc}{f:FuncId}{args:jt jh}(b:ops[i]?=A o)(c:Region.wanted o (jX ops v.tmps)=jf)
 (he:∀w,(jV v.eval o).run P w=.ok (.enter f args) w) (d:∀w,S w->ju P f args w λe w'=>e=js a/\w'=w) (h:eK P ops Q S r (v.put o.dst a) w):eK P ops Q S (.take i r) v w:=
 ⟨o,a,b,.inl ⟨c,λw e=>.inr ⟨f,args,he w,d w e⟩⟩,h⟩
theorem SX{f:I}{x y:bE}{a:Act}{w:jc}(b:eK P ops Q S (.one i x) a w)(c:eK P ops Q S (.one f y) a w):eK P ops Q S (.two i f x y) a w:=
 ⟨b,c⟩
theorem cJ{o:jy}{v:jh}{r:bE}{a:Act}{w:jc}{f:I}(b:ops[i]?=A o)(c:Region.wanted o (jX ops a.tmps)=jf)
 (d:∀w,S w->(jV a.eval o).run P w=.ok (.value v) w) (h:cX P ops Q S f r (a.put o.dst v) w):cX P ops Q S f (.take i r) a w:=
 ⟨o,v,b,.inl ⟨c,λw e=>.inl (d w e)⟩,h⟩
theorem G5{o:jy}{r:bE}{a:Act}{w:jc}{f:I}(b:ops[i]?=A o)(c:Region.wanted o (jX ops a.tmps)=jz)
 (h:cX P ops Q S f r (a.put o.dst jB) w):cX P ops Q S f (.take i r) a w:=
 ⟨o,jB,b,.inr ⟨c,rfl⟩,h⟩
theorem cV{o:jy}{r:bE}{a:Act}{w:jc}{f:I}(d:ops[i]?=A o)
 (h:∀b:Act->jc->Prop,Shut (∀a w,S w->(S w->cX P ops Q S f r a w)->b a w)->if Region.wanted o (jX ops a.tmps)=jf then Oper.wp P o a w b Q else b (a.put o.dst jB) w):
 cX P ops Q S f (.one i r) a w:=
 qQ d λb e=>h b (λa w c g=>e a w (.inr ⟨c,λ_=>g c⟩))
theorem nA{o:jy}{r:bE}{a:Act}{w:jc}{f:I}(c:ops[i]?=A o)(d:f<=i)(e:r.tail f=jf)
 (h:∀b:Act->jc->Prop,Shut (∀a w,cX P ops Q S f r a w->b a w)->if Region.wanted o (jX ops a.tmps)=jf then Oper.wp P o a w b Q else b (a.put o.dst jB) w):
 cX P ops Q S f (.one i r) a w:=
 qQ c λb g=>h b (λa w j=>g a w (.inl ⟨d,e,j⟩))
end
theorem co{p q:Prop}(k:q)(h:q->p:=by intro k;refine cJ (v:=?_) rfl (by rfl) (λW' hS=>?_) ?_;rotate_left;(clear hS;go_simp;with_reducible rfl);refine L ?_;exact k):p:=h k
end
section
def cF(w:jc)(v:jh)(sz n:I)(xs:je jh):Prop:=
 xs.length=n*sz/\∃(p:jE jP) (c:I),v=jp p n c/\n<=c/\(p=jd->c=0)/\
  (0<n->∃g o,p=A ⟨g,o,jd⟩/\∀(j:I) a,xs[j]?=A a->w.cell? ⟨g,o+j,jd⟩=A a)
theorem ge{w:jc}{a:jP}{b:jh}(h:w.cell? a=A b):a.block<w.heap.size:=by
 unfold j4 at h
 cases hb:w.heap[a.block]? with
 |none=>simp[hb]at h
 |some x=>exact(jQ.1 hb).1
theorem cF.below{w w':jc}{v:jh}{sz n:I}{xs:je jh}(h:cF w v sz n xs)(f:jn w w w'):cF w' v sz n xs:=by
 obtain⟨i,p,c,rfl,k,l,m⟩:=h;refine⟨i,p,c,T,k,l,λq=>?_⟩;obtain⟨g,o,e,a⟩:=m q;exact⟨g,o,e,λj b d=>by rw[f.cell (p:=⟨g,o+j,jd⟩) (ge (a j b d))];exact a j b d⟩
theorem cF.of_own{w:jc}{B sz n:I}{e:jr}{v:jh}{xs:je jh}(h:w.ownsRow B e sz v n xs):cF w v sz n xs:=by
 refine⟨h.1,?_⟩
 rcases h.2 with⟨rfl,b⟩|⟨g,c,k,rfl,l,d,f,m,o,i⟩
 ·have j:n=0:=by
   first
    |exact b
    |(have a:=h.1;rw[b]at a;simp at a;omega)
  subst j;exact⟨jd,0,T,jA _,λ_=>rfl,λa=>by omega⟩
 refine⟨A ⟨g,0,jd⟩,c,T,f,λe=>by simp at e,λ_=>⟨g,0,rfl,λj p a=>?_⟩⟩;have q:j<xs.length:=(ow.1 a).1;rw[<-i]at a;rw[List.getElem?_take]at a
 split at a
 ·simp only[j4,d]
  simpa using a
 cases a
theorem uQ(g o j:I):(⟨g,o,jd⟩:jP).add j=⟨g,o+j,jd⟩:=by unfold Addr.add;split<;>simp_all
section
variable {P:jI}
theorem QB(w:jc)(base:I)(t d e:jr)(i:TypeInfo)(z:jh)(size f:I)(k:P.underlying t=A (.slice e))(l:P.info? e=A i)(u:i.zero=A z)
 (x:i.size=size) (y:i.bytes=f) (B:z.cells.size=size) (C:0<size)
 (v:jh) (n:I) (xs:je jh) (h:w.ownsRow base e size v n xs) (a:jh) (m:I) (ys:je jh) (D:cF w a size m ys) (E:∀a∈ys,a.oneCell'=jf)
 (F:n+m<=jY) (H:(n+m)*f<=140737488355328) (K:base<=w.heap.size):
 ∃b w',(Builtin.append_ #[t,t] d #[v,a]).run P w=.ok b w'/\w'.ownsRow base e size b (n+m) (xs++ys)/\w.grownBy w' v.ownBlock:=by
 obtain⟨q,p,c,rfl,W,M,Q⟩:=D
 rcases p with _|r
 ·have g:=M T
  subst g;obtain rfl:m=0:=Y;obtain rfl:ys=[]:=vi Y;exact⟨v,w,run_append_owned_none (P:=P) (w:=w) base t d e i size k l v n xs h,by simpa using h,qX.refl _ _⟩
 have R:∀(j:I) a,ys[j]?=A a->w.cell? (r.add j)=A a:=?_
 ·obtain⟨b,w',g,o,s,_⟩:=run_append_own (P:=P) w base t d e i z size f k l u x y B C v n xs h r m c ys q R E F H K
  exact⟨b,w',g,o,s⟩
 intro j a s;have S:=(ow.1 s).1;have U:0<m:=by
  rcases qg m with g|g
  ·rw[q,g]at S;omega
  exact g
 obtain⟨g,o,e,V⟩:=Q U;obtain rfl:=wi.inj e;rw[uQ];exact V j a s
theorem Iv{w:jc}{o:jy}{a:Act}{K:Act->jc->Prop}{f:jT->Act->jc->Prop}(s x:ms)(t:jr)
 (g:o.op=.call {callee:=.builtin .append,args:=#[s,x],argTypes:=#[t,t]})
 (base:I) (e:jr) (i:TypeInfo) (z:jh) (size d:I) (j:P.underlying t=A (.slice e)) (k:P.info? e=A i) (l:i.zero=A z)
 (p:i.size=size) (q:i.bytes=d) (r:z.cells.size=size) (u:0<size)
 (v:jh) (n:I) (xs:je jh) (y:a.eval s=v) (B:w.ownsRow base e size v n xs) (b:jh) (m:I) (ys:je jh) (C:a.eval x=b) (D:cF w b size m ys) (E:∀b∈ys,b.oneCell'=jf)
 (F:n+m<=jY) (H:(n+m)*d<=140737488355328) (M:base<=w.heap.size)
 (h:∀c w',w'.ownsRow base e size c (n+m) (xs++ys)->w.grownBy w' v.ownBlock->K (a.put o.dst c) w'):o.wp P a w K f:=by
 obtain⟨c,w',Q,R,S⟩:=QB (P:=P) w base t o.type e i z size d j k l p q r u v n xs B b m ys D E F H M;unfold Oper.wp jV;simp only[g,resolve,invoke,builtin,Sem.run_bind,Sem.run_pure,Result.andThen_ok,wq,wt,wv,y,C,Q];exact h c w' R S
theorem MR(w:jc)(base:I)(t d e:jr)(i:TypeInfo)(z:jh)(size f:I)(k:P.underlying t=A (.slice e))(l:P.info? e=A i)(u:i.zero=A z)
 (x:i.size=size) (y:i.bytes=f) (B:z.cells.size=size) (C:0<size)
 (v:jh) (n:I) (xs:je jh) (h:w.ownsRow base e size v n xs) (a:jh) (m:I) (ys:je jh) (D:cF w a size m ys) (E:∀a∈ys,a.oneCell'=jf)
 (F:n+m<=jY) (H:(n+m)*f<=140737488355328) (K:base<=w.heap.size):
 ∃b w',(Builtin.append_ #[t,t] d #[v,a]).run P w=.ok b w'/\w'.ownsRow base e size b (n+m) (xs++ys)/\w.grownBy w' v.ownBlock/\(b.ownBlock=v.ownBlock\/b.ownBlock=A w.heap.size):=by
 obtain⟨q,p,c,rfl,W,M,Q⟩:=D
 rcases p with _|r
 ·have g:=M T
  subst g;obtain rfl:m=0:=Y;obtain rfl:ys=[]:=vi Y;exact⟨v,w,run_append_owned_none (P:=P) (w:=w) base t d e i size k l v n xs h,by simpa using h,qX.refl _ _,.inl rfl⟩
 have R:∀(j:I) a,ys[j]?=A a->w.cell? (r.add j)=A a:=?_
 ·obtain⟨b,w',g,o,s,_,S⟩:=run_append_own_at (P:=P) w base t d e i z size f k l u x y B C v n xs h r m c ys q R E F H K
  exact⟨b,w',g,o,s,S⟩
 intro j a s;have S:=(ow.1 s).1;have U:0<m:=by
  rcases qg m with g|g
  ·rw[q,g]at S;omega
  exact g
 obtain⟨g,o,e,V⟩:=Q U;obtain rfl:=wi.inj e;rw[uQ];exact V j a s
theorem nP{w:jc}{o:jy}{a:Act}{K:Act->jc->Prop}{f:jT->Act->jc->Prop}(s x:ms)(t:jr)
 (g:o.op=.call {callee:=.builtin .append,args:=#[s,x],argTypes:=#[t,t]})
 (base:I) (e:jr) (i:TypeInfo) (z:jh) (size d:I) (j:P.underlying t=A (.slice e)) (k:P.info? e=A i) (l:i.zero=A z)
 (p:i.size=size) (q:i.bytes=d) (r:z.cells.size=size) (u:0<size)
 (v:jh) (n:I) (xs:je jh) (y:a.eval s=v) (B:w.ownsRow base e size v n xs) (c:jh) (m:I) (ys:je jh) (C:a.eval x=c) (D:cF w c size m ys) (E:∀c∈ys,c.oneCell'=jf)
 (F:n+m<=jY) (H:(n+m)*d<=140737488355328) (M:base<=w.heap.size)
 (h:∀b w',w'.ownsRow base e size b (n+m) (xs++ys)->w.grownBy w' v.ownBlock->(b.ownBlock=v.ownBlock\/b.ownBlock=A w.heap.size)->K (a.put o.dst b) w'):o.wp P a w K f:=by
 obtain⟨b,w',Q,R,S,U⟩:=MR (P:=P) w base t o.type e i z size d j k l p q r u v n xs B c m ys D E F H M;unfold Oper.wp jV;simp only[g,resolve,invoke,builtin,Sem.run_bind,Sem.run_pure,Result.andThen_ok,wq,wt,wv,y,C,Q];exact h b w' R S U
end
end
section
section
variable {P:jI} {ops:jt jy} {Q:jT->Act->jc->Prop} {md:Region.Mode} {S:jc->Prop}
theorem BX{a:Act}{d:I}{v:jh}(h:d<a.tmps.size):(a.put (A d) v).eval (.tmp d)=v:=by
 show(a.tmps.setIfInBounds d v).getD d jB=v;simp[Array.getD,h]
theorem io{a:Act}{d e:I}{v:jh}(h:d≠e):(a.put (A d) v).eval (.tmp e)=a.eval (.tmp e):=by
 show(a.tmps.setIfInBounds d v).getD e jB=a.tmps.getD e jB;simp only[qG,xy h]
theorem yN{a:Act}{d:jE I}{v:jh}:(a.put d v).tmps.size=a.tmps.size:=by
 cases d<;>simp[Act.put]
theorem Ar{i:I}{o:jy}{K:Act->jc->Prop}{a:Act}{w:jc}(b:ops[i]?=A o)(c:o.guard=jd)(h:o.wp P a w K Q):jK P ops Q i K a w:=by
 unfold jK;rw[b];show if Region.wanted o (jX ops a.tmps)=jf then _ else _
 rw[o8 (by unfold Region.wanted;simp[c])];exact .inl h
theorem Ir{o:jy}{a:Act}{w w':jc}{K:Act->jc->Prop}{v:jh}(h:(jV a.eval o).run P w=.ok (.value v) w')(b:K (a.put o.dst v) w'):o.wp P a w K Q:=by
 unfold Oper.wp;rw[h];exact b
theorem gK{o:jy}{a:Act}{w:jc}{K:Act->jc->Prop}(t:jr)(b:o.op=.alloc t)(Z:jt jh)
 (c:∀w,(Instr.alloc t jf (jL #[])).run P w=.ok (jG (A ⟨w,0,jd⟩)) (w.alloc (jj Z t))) (h:K (a.put o.dst (jG (A ⟨w,0,jd⟩))) (w.alloc (jj Z t))):o.wp P a w K Q:=by
 refine Ir (v:=jG (A ⟨w,0,jd⟩)) (w':=w.alloc (jj Z t)) ?_ h;unfold jV;simp only[b,Sem.run_bind,c,Result.andThen_ok,Sem.run_pure]
end
end
theorem Hu(a b:I)(c:a<4294967296)(d:b<4294967296):bits .or .u32 (a:N) (b:N)=((a|||b:I):N):=
 (bits_nat .u32 32 G (λn e f=>IntWalk.u32_in n Y) a b Y Y).2
theorem OD(a b:I)(c:a<4294967296)(d:b<4294967296):bits .and .u32 (a:N) (b:N)=((a&&&b:I):N):=
 (bits_nat .u32 32 G (λn e f=>IntWalk.u32_in n Y) a b Y Y).1
theorem J8(a b:I)(c:a<4294967296)(d:b<4294967296):bits .xor .u32 (a:N) (b:N)=((a^^^b:I):N):=by
 have e:a%2^32=a:=j3 c;have f:b%2^32=b:=j3 d;have g:a^^^b<2^32:=Nat.xor_lt_two_pow c d;show jo.wrap ((xG 32 (a:N)^^^xG 32 (b:N)).toNat:N)=_;simp only[BitVec.ofInt_natCast,xH,wx,e,f];exact IntWalk.u32_in _ Y
theorem bor(x y:jl 32):bits .or .u32 (x.toNat:N) (y.toNat:N)=((x|||y).toNat:N):=by rw[Hu _ _ x.isLt y.isLt,xI]
theorem Ex(x y:jl 32):bits .and .u32 (x.toNat:N) (y.toNat:N)=((x&&&y).toNat:N):=by rw[OD _ _ x.isLt y.isLt,BitVec.toNat_and]
theorem iH(x y:jl 32):bits .xor .u32 (x.toNat:N) (y.toNat:N)=((x^^^y).toNat:N):=by rw[J8 _ _ x.isLt y.isLt,xH]
theorem ln(x y:jl 32):((x.toNat:N)+(y.toNat:N))%4294967296=((x+y).toNat:N):=by rw[xJ];simp
theorem zY(x:jl 32)(n d:I)(a:d=2^n):(x.toNat:N)/(d:N)=((x>>>n).toNat:N):=by rw[xa,xd,a];simp
theorem Aa(x:jl 8)(n d:I)(a:n<=24)(b:d=2^n):(x.toNat:N)*(d:N)=((x.setWidth 32<<<n).toNat:N):=by
 have g:=x.isLt;have c:2^n<=2^24:=sx G a;have e:x.toNat*2^n<2^32:=by
  have:x.toNat*2^n<=255*2^24:=Nat.mul_le_mul Y c;omega
 have f:x.toNat%2^32=x.toNat:=j3 Y;rw[xe,qN,qY,f,j3 e,b];simp
theorem Ew(x:jl 8):(x.toNat:N)=((x.setWidth 32).toNat:N):=by
 have a:=x.isLt;rw[qN,j3 Y]
theorem ir(x:jl 32)(k m d:I)(a:k<32)(b:m=2^k)(c:d=2^(32-k)):
 bits .or .u32 ((x.toNat:N)*(m:N)%4294967296) ((x.toNat:N)/(d:N))=((x.rotateLeft k).toNat:N):=by
 have e:((x.toNat:N)*(m:N)%4294967296)=((x.toNat*m%4294967296:I):N):=by simp
 have f:((x.toNat:N)/(d:N))=((x.toNat/d:I):N):=by simp
 have g:x.toNat/d<4294967296:=Nat.lt_of_le_of_lt (xE _ _) (cT x.isLt);rw[e,f,Hu _ _ (qM _ G) g,xK,j3 a,xI,xe,xa,qY,xd,<-b,<-c]
theorem lJ(x:jl 32)(k:I)(h:0<k)(a:k<32):x.rotateLeft (32-k)=x.rotateRight k:=by
 rw[xK,BitVec.rotateRight_def,j3 a,j3 (by omega:32-k<32),show 32-(32-k)=k by omega,BitVec.or_comm]
theorem fN{j b:N}(h:j=b):Ending.returned (ja jq j)=js (ja jq b):=by rw[h]
theorem S6(x:jl 32)(w:jc):
 ju ji 233 #[ja jq x.toNat,ja jg 16] w λe w'=>e=js (ja jq (x.rotateLeft 16).toNat)/\w=w':=by
 have a:bits .and .u64 16 31=16:=by decide
 go_enter j6,j7
 go_wp2
 go_ret;exact⟨fN (ir x 16 65536 65536 G G G),T⟩
theorem Se(x:jl 32)(w:jc):
 ju ji 233 #[ja jq x.toNat,ja jg 12] w λe w'=>e=js (ja jq (x.rotateLeft 12).toNat)/\w=w':=by
 have a:bits .and .u64 12 31=12:=by decide
 go_enter j6,j7
 go_wp2
 go_ret;exact⟨fN (ir x 12 4096 1048576 G G G),T⟩
theorem I7(x:jl 32)(w:jc):
 ju ji 233 #[ja jq x.toNat,ja jg 8] w λe w'=>e=js (ja jq (x.rotateLeft 8).toNat)/\w=w':=by
 have a:bits .and .u64 8 31=8:=by decide
 go_enter j6,j7
 go_wp2
 go_ret;exact⟨fN (ir x 8 256 16777216 G G G),T⟩
theorem Jn(x:jl 32)(w:jc):
 ju ji 233 #[ja jq x.toNat,ja jg 7] w λe w'=>e=js (ja jq (x.rotateLeft 7).toNat)/\w=w':=by
 have a:bits .and .u64 7 31=7:=by decide
 go_enter j6,j7
 go_wp2
 go_ret;exact⟨fN (ir x 7 128 33554432 G G G),T⟩
theorem Qn(x:jl 32)(w:jc):
 ju ji 233 #[ja jq x.toNat,ja jg (-7)] w λe w'=>e=js (ja jq (x.rotateRight 7).toNat)/\w=w':=by
 rw[<-lJ x 7 G G];have a:bits .and .u64 (jJ.wrap (-7)) 31=25:=by decide
 go_enter j6,j7
 go_wp2
 go_ret;exact⟨fN (ir x 25 33554432 128 G G G),T⟩
theorem OK(x:jl 32)(w:jc):
 ju ji 233 #[ja jq x.toNat,ja jg (-18)] w λe w'=>e=js (ja jq (x.rotateRight 18).toNat)/\w=w':=by
 rw[<-lJ x 18 G G];have a:bits .and .u64 (jJ.wrap (-18)) 31=14:=by decide
 go_enter j6,j7
 go_wp2
 go_ret;exact⟨fN (ir x 14 16384 262144 G G G),T⟩
theorem PH(x:jl 32)(w:jc):
 ju ji 233 #[ja jq x.toNat,ja jg (-17)] w λe w'=>e=js (ja jq (x.rotateRight 17).toNat)/\w=w':=by
 rw[<-lJ x 17 G G];have a:bits .and .u64 (jJ.wrap (-17)) 31=15:=by decide
 go_enter j6,j7
 go_wp2
 go_ret;exact⟨fN (ir x 15 32768 131072 G G G),T⟩
theorem Qi(x:jl 32)(w:jc):
 ju ji 233 #[ja jq x.toNat,ja jg (-19)] w λe w'=>e=js (ja jq (x.rotateRight 19).toNat)/\w=w':=by
 rw[<-lJ x 19 G G];have a:bits .and .u64 (jJ.wrap (-19)) 31=13:=by decide
 go_enter j6,j7
 go_wp2
 go_ret;exact⟨fN (ir x 13 8192 524288 G G G),T⟩
theorem Qq(x:jl 32)(w:jc):
 ju ji 233 #[ja jq x.toNat,ja jg (-6)] w λe w'=>e=js (ja jq (x.rotateRight 6).toNat)/\w=w':=by
 rw[<-lJ x 6 G G];have a:bits .and .u64 (jJ.wrap (-6)) 31=26:=by decide
 go_enter j6,j7
 go_wp2
 go_ret;exact⟨fN (ir x 26 67108864 64 G G G),T⟩
theorem P1(x:jl 32)(w:jc):
 ju ji 233 #[ja jq x.toNat,ja jg (-11)] w λe w'=>e=js (ja jq (x.rotateRight 11).toNat)/\w=w':=by
 rw[<-lJ x 11 G G];have a:bits .and .u64 (jJ.wrap (-11)) 31=21:=by decide
 go_enter j6,j7
 go_wp2
 go_ret;exact⟨fN (ir x 21 2097152 2048 G G G),T⟩
theorem Td(x:jl 32)(w:jc):
 ju ji 233 #[ja jq x.toNat,ja jg (-25)] w λe w'=>e=js (ja jq (x.rotateRight 25).toNat)/\w=w':=by
 rw[<-lJ x 25 G G];have a:bits .and .u64 (jJ.wrap (-25)) 31=7:=by decide
 go_enter j6,j7
 go_wp2
 go_ret;exact⟨fN (ir x 7 128 33554432 G G G),T⟩
theorem Je(x:jl 32)(w:jc):
 ju ji 233 #[ja jq x.toNat,ja jg (-2)] w λe w'=>e=js (ja jq (x.rotateRight 2).toNat)/\w=w':=by
 rw[<-lJ x 2 G G];have a:bits .and .u64 (jJ.wrap (-2)) 31=30:=by decide
 go_enter j6,j7
 go_wp2
 go_ret;exact⟨fN (ir x 30 1073741824 4 G G G),T⟩
theorem Kq(x:jl 32)(w:jc):
 ju ji 233 #[ja jq x.toNat,ja jg (-13)] w λe w'=>e=js (ja jq (x.rotateRight 13).toNat)/\w=w':=by
 rw[<-lJ x 13 G G];have a:bits .and .u64 (jJ.wrap (-13)) 31=19:=by decide
 go_enter j6,j7
 go_wp2
 go_ret;exact⟨fN (ir x 19 524288 8192 G G G),T⟩
theorem ME(x:jl 32)(w:jc):
 ju ji 233 #[ja jq x.toNat,ja jg (-22)] w λe w'=>e=js (ja jq (x.rotateRight 22).toNat)/\w=w':=by
 rw[<-lJ x 22 G G];have a:bits .and .u64 (jJ.wrap (-22)) 31=10:=by decide
 go_enter j6,j7
 go_wp2
 go_ret;exact⟨fN (ir x 10 1024 4194304 G G G),T⟩
def le4(a b c d:jl 8):jl 32:=a.setWidth 32|||b.setWidth 32<<<8|||c.setWidth 32<<<16|||d.setWidth 32<<<24
theorem OW(d a b c:jl 8):bits .or .u32 (bits .or .u32 (bits .or .u32 (d.toNat:N) ((a.toNat:N)*256)) ((b.toNat:N)*65536)) ((c.toNat:N)*16777216)=((le4 d a b c).toNat:N):=by
 rw[Ew d,show((a.toNat:N)*256)=_ from Aa a 8 256 G G,show((b.toNat:N)*65536)=_ from Aa b 16 65536 G G,
  show((c.toNat:N)*16777216)=_ from Aa c 24 16777216 G G,bor,bor,bor];rfl
theorem Ec(g o c n:I)(h:4<=n)(i:n<4611686018427387904)(a b d f:jl 8)(w:jc)(j:w.cell? ⟨g,o,jd⟩=A (ja jF a.toNat))(k:w.cell? ⟨g,o+1,jd⟩=A (ja jF b.toNat))
 (l:w.cell? ⟨g,o+2,jd⟩=A (ja jF d.toNat)) (m:w.cell? ⟨g,o+3,jd⟩=A (ja jF f.toNat)):
 ju ji 264 #[jp (A ⟨g,o,jd⟩) n c] w λe w'=>e=js (ja jq (le4 a b d f).toNat)/\∃q,w'=w.drewN q:=by
 go_enter func264,ntmps264
 go_wp2
 go_quiet (fail)
 go_wp2
 go_ret;exact⟨fN (OW a b d f),_,T⟩
def aT(W:jc)(g:I)(t:jr)(v:je (jl 32)):Prop:=
 W.heap[g]?=A (jj (v.map λx=>jb .u32 (x.toNat:N)).toArray t (0,0))
theorem aT.cell{g:I}{v:je (jl 32)}(h:aT W g t v){i:I}(a:i<v.length):
 W.cell? ⟨g,i,jd⟩=A (ja jq (v.getD i 0).toNat):=by
 simp[j4,show W.heap[g]?=_ from h,a,jU]
theorem aT.frozen(h:aT w B t b)(i:I):w.frozen? ⟨B,i,jd⟩=jz:=by
 simp[xL,show w.heap[B]?=_ from h]
theorem aT.lt(h:aT w B t b):B<w.heap.size:=(jQ.1 h).1
theorem aT.set{g:I}{v:je (jl 32)}(h:aT W g t v)(i:I)(x:jl 32):
 aT (W.setCell ⟨g,i,jd⟩ (ja jq x.toNat)) g t (v.set i x):=by
 have a:=h.lt;have b:W.heap[g]=_:=(jQ.1 h).2;show(W.heap.modify g _)[g]?=_;rw[xf];simp[a,b,List.map_set]
structure bQ(g:I)(w w':jc):Prop where
 os:w'.os=w.os
 tape:w'.tape=w.tape
 output:w'.output=w.output
 size:w'.heap.size=w.heap.size
 block:∀k,k≠g->w'.heap[k]?=w.heap[k]?
theorem bQ.refl(g:I)(w:jc):bQ g w w:=⟨T,T,T,T,λ_ _=>rfl⟩
theorem bQ.trans{g:I}{b c:jc}(h:bQ g a b)(k:bQ g b c):bQ g a c:=
 ⟨k.os.trans h.os,k.tape.trans h.tape,k.output.trans h.output,k.size.trans h.size,λi d=>(k.block i d).trans (h.block i d)⟩
theorem bQ.setCell(g i:I)(w:jc)(x:jh):bQ g w (w.setCell ⟨g,i,jd⟩ x):=
 ⟨rfl,rfl,rfl,by simp[xg],λk a=>qd _ _ _ _ a⟩
theorem bQ.below{g:I}(h:bQ g w w')(a:B<=g):jn B w w':=
 ⟨h.os,h.tape,h.output,qL h.size.symm,λk b=>h.block k Y⟩
def stA(v:je (jl 32))(a b:I):je (jl 32):=v.set a (v.getD a 0+v.getD b 0)
def stD(v:je (jl 32))(d a k:I):je (jl 32):=v.set d ((v.getD d 0^^^v.getD a 0).rotateLeft k)
def qr(v:je (jl 32))(a b c d:I):je (jl 32):=
 stD (stA (stD (stA (stD (stA (stD (stA v a b) d a 16) c d) b c 12) a b) d a 8) c d) b c 7
theorem tz(v a b):(stA v a b).length=v.length:=by simp[stA]
theorem vC(v a b k):(stD v a b k).length=v.length:=by simp[stD]
theorem CR(v a b c d):(qr v a b c d).length=v.length:=by simp[qr,tz,vC]
theorem NW(x y z:jl 32)(a:jm ((x^^^y).rotateLeft 16=z))(w:jc):
 ju ji 233 #[ja jq (bits .xor .u32 (x.toNat:N) (y.toNat:N)),ja jg 16] w λe w'=>e=js (ja jq z.toNat)/\w=w':=by
 rw[iH,<-a];exact S6 _ _
theorem Pm(x y z:jl 32)(a:jm ((x^^^y).rotateLeft 12=z))(w:jc):
 ju ji 233 #[ja jq (bits .xor .u32 (x.toNat:N) (y.toNat:N)),ja jg 12] w λe w'=>e=js (ja jq z.toNat)/\w=w':=by
 rw[iH,<-a];exact Se _ _
theorem Nt(x y z:jl 32)(a:jm ((x^^^y).rotateLeft 8=z))(w:jc):
 ju ji 233 #[ja jq (bits .xor .u32 (x.toNat:N) (y.toNat:N)),ja jg 8] w λe w'=>e=js (ja jq z.toNat)/\w=w':=by
 rw[iH,<-a];exact I7 _ _
theorem TS(x y z:jl 32)(a:jm ((x^^^y).rotateLeft 7=z))(w:jc):
 ju ji 233 #[ja jq (bits .xor .u32 (x.toNat:N) (y.toNat:N)),ja jg 7] w λe w'=>e=js (ja jq z.toNat)/\w=w':=by
 rw[iH,<-a];exact Jn _ _
theorem FN(g:I)(t:jr)(v:je (jl 32))(Q:v.length=16)(a b c d:I)(ha:(a:N)<16)(hb:(b:N)<16)(hc:(c:N)<16)(hd:(d:N)<16)(w:jc)
 (h:aT w g t v):
 ju ji 246 #[jG (A ⟨g,0,jd⟩),ja jg a,ja jg b,ja jg c,ja jg d] w λe w'=>
  e=js (jL #[])/\bQ g w w'/\aT w' g t (qr v a b c d):=by
 have f:bQ g w w:=bQ.refl g w;have n:qr v a b c d=stD (stA (stD (stA (stD (stA (stD (stA v a b) d a 16) c d) b c 12) a b) d a 8) c d) b c 7:=T;generalize qr v a b c d=R at n⊢;replace n:=O n
 go_enter func246,ntmps246
 replace f:=O f;replace h:=O h
 go_upto_region 0 with fail
 go_cut []from 10 to 22 (λl=>aT l g t (stA v a b)/\bQ g w l)
 case first=>
  have m:=h.cell (i:=a) Y;have B:=h.cell (i:=b) Y;have F:=h.frozen a;generalize j:v.getD a 0=x at m;generalize k:v.getD b 0=y at B;replace j:=O j;replace k:=O k
  go_region
  rw[ln x y]
  go_wp2_with fail
  go_meet
  refine⟨?_,?_⟩
  ·rw[stA,j,k];exact h.set _ _
  exact f.trans ((bQ.setCell g a w (ja jq (x+y).toNat)).trans ⟨T,T,T,T,λ_ _=>rfl⟩)
 obtain⟨o,f⟩:=hcut;clear h;have D:(stA v a b).length=16:=by rw[tz];exact Q
 generalize stA v a b=q at o D n;generalize wc=S at*;replace f:=O f;replace o:=O o
 go_upto_region 1 with fail
 go_cut []from 23 to 38 (λl=>aT l g t (stD q d a 16)/\bQ g w l)
 case first=>
  have m:=o.cell (i:=d) Y;have B:=o.cell (i:=a) Y;have F:=o.frozen d;generalize j:q.getD d 0=x at m;generalize k:q.getD a 0=y at B;replace j:=O j;replace k:=O k;obtain⟨z,h⟩:∃z,jm ((x^^^y).rotateLeft 16=z):=⟨_,O T⟩
  go_region_with (go_at_call 233;refine(NW x y z h _).mono ?_;rintro e w' ⟨rfl,rfl⟩)
  all_goals
   go_wp2_with fail
   go_meet
   refine⟨?_,?_⟩
   ·rw[stD,j,k,h];exact o.set _ _
   exact f.trans ((bQ.setCell g d S (ja jq z.toNat)).trans ⟨T,T,T,T,λ_ _=>rfl⟩)
 obtain⟨p,f⟩:=hcut;clear o;have E:(stD q d a 16).length=16:=by rw[vC];exact D
 generalize stD q d a 16=r at p E n;generalize wc=U at*;replace f:=O f;replace p:=O p
 go_upto_region 2 with fail
 go_cut []from 39 to 51 (λl=>aT l g t (stA r c d)/\bQ g w l)
 case first=>
  have m:=p.cell (i:=c) Y;have B:=p.cell (i:=d) Y;have F:=p.frozen c;generalize j:r.getD c 0=x at m;generalize k:r.getD d 0=y at B;replace j:=O j;replace k:=O k
  go_region
  rw[ln x y]
  go_wp2_with fail
  go_meet
  refine⟨?_,?_⟩
  ·rw[stA,j,k];exact p.set _ _
  exact f.trans ((bQ.setCell g c U (ja jq (x+y).toNat)).trans ⟨T,T,T,T,λ_ _=>rfl⟩)
 obtain⟨o,f⟩:=hcut;clear p;have H:(stA r c d).length=16:=by rw[tz];exact E
 generalize stA r c d=s at o H n;generalize wc=V at*;replace f:=O f;replace o:=O o
 go_upto_region 3 with fail
 go_cut []from 52 to 67 (λl=>aT l g t (stD s b c 12)/\bQ g w l)
 case first=>
  have m:=o.cell (i:=b) Y;have B:=o.cell (i:=c) Y;have F:=o.frozen b;generalize j:s.getD b 0=x at m;generalize k:s.getD c 0=y at B;replace j:=O j;replace k:=O k;obtain⟨z,h⟩:∃z,jm ((x^^^y).rotateLeft 12=z):=⟨_,O T⟩
  go_region_with (go_at_call 233;refine(Pm x y z h _).mono ?_;rintro e w' ⟨rfl,rfl⟩)
  all_goals
   go_wp2_with fail
   go_meet
   refine⟨?_,?_⟩
   ·rw[stD,j,k,h];exact o.set _ _
   exact f.trans ((bQ.setCell g b V (ja jq z.toNat)).trans ⟨T,T,T,T,λ_ _=>rfl⟩)
 obtain⟨p,f⟩:=hcut;clear o;have K:(stD s b c 12).length=16:=by rw[vC];exact H
 generalize stD s b c 12=u at p K n;generalize wc=W at*;replace f:=O f;replace p:=O p
 go_upto_region 4 with fail
 go_cut []from 68 to 80 (λl=>aT l g t (stA u a b)/\bQ g w l)
 case first=>
  have m:=p.cell (i:=a) Y;have B:=p.cell (i:=b) Y;have F:=p.frozen a;generalize j:u.getD a 0=x at m;generalize k:u.getD b 0=y at B;replace j:=O j;replace k:=O k
  go_region
  rw[ln x y]
  go_wp2_with fail
  go_meet
  refine⟨?_,?_⟩
  ·rw[stA,j,k];exact p.set _ _
  exact f.trans ((bQ.setCell g a W (ja jq (x+y).toNat)).trans ⟨T,T,T,T,λ_ _=>rfl⟩)
 obtain⟨o,f⟩:=hcut;clear p;have M:(stA u a b).length=16:=by rw[tz];exact K
 generalize stA u a b=C at o M n;generalize wc=X at*;replace f:=O f;replace o:=O o
 go_upto_region 5 with fail
 go_cut []from 81 to 96 (λl=>aT l g t (stD C d a 8)/\bQ g w l)
 case first=>
  have m:=o.cell (i:=d) Y;have B:=o.cell (i:=a) Y;have F:=o.frozen d;generalize j:C.getD d 0=x at m;generalize k:C.getD a 0=y at B;replace j:=O j;replace k:=O k;obtain⟨z,h⟩:∃z,jm ((x^^^y).rotateLeft 8=z):=⟨_,O T⟩
  go_region_with (go_at_call 233;refine(Nt x y z h _).mono ?_;rintro e w' ⟨rfl,rfl⟩)
  all_goals
   go_wp2_with fail
   go_meet
   refine⟨?_,?_⟩
   ·rw[stD,j,k,h];exact o.set _ _
   exact f.trans ((bQ.setCell g d X (ja jq z.toNat)).trans ⟨T,T,T,T,λ_ _=>rfl⟩)
 obtain⟨p,f⟩:=hcut;clear o;have P:(stD C d a 8).length=16:=by rw[vC];exact M
 generalize stD C d a 8=o at p P n;generalize wc=W6 at*;replace f:=O f;replace p:=O p
 go_upto_region 6 with fail
 go_cut []from 97 to 109 (λl=>aT l g t (stA o c d)/\bQ g w l)
 case first=>
  have m:=p.cell (i:=c) Y;have B:=p.cell (i:=d) Y;have F:=p.frozen c;generalize j:o.getD c 0=x at m;generalize k:o.getD d 0=y at B;replace j:=O j;replace k:=O k
  go_region
  rw[ln x y]
  go_wp2_with fail
  go_meet
  refine⟨?_,?_⟩
  ·rw[stA,j,k];exact p.set _ _
  exact f.trans ((bQ.setCell g c W6 (ja jq (x+y).toNat)).trans ⟨T,T,T,T,λ_ _=>rfl⟩)
 obtain⟨l,f⟩:=hcut;clear p;have l7:(stA o c d).length=16:=by rw[tz];exact P
 generalize stA o c d=p at l l7 n;generalize wc=W7 at*;have f:=O f;replace l:=O l
 go_upto_region 7 with fail
 have m:=l.cell (i:=b) Y;have B:=l.cell (i:=c) Y;have F:=l.frozen b;generalize j:p.getD b 0=x at m;generalize k:p.getD c 0=y at B;replace j:=O j;replace k:=O k;obtain⟨z,h⟩:∃z,jm ((x^^^y).rotateLeft 7=z):=⟨_,O T⟩
 go_region_with (go_at_call 233;refine(TS x y z h _).mono ?_;rintro e w' ⟨rfl,rfl⟩)
 all_goals
  go_wp2_with fail
  go_end0
  refine⟨T,?_,?_⟩
  ·exact f.trans ((bQ.setCell g b W7 (ja jq z.toNat)).trans ⟨T,T,T,T,λ_ _=>rfl⟩)
  rw[n,stD,j,k,h];exact l.set _ _
abbrev v8(x:jl 8):jh:=jb .u8 (x.toNat:N)
abbrev cB(x:jl 32):jh:=jb .u32 (x.toNat:N)
def cI(W:jc)(g:I)(t:jr)(v:LBy):Prop:=
 W.heap[g]?=A (jj (v.map v8).toArray t (0,0))
theorem cI.cell{g:I}{v:LBy}(h:cI W g t v){i:I}(a:i<v.length):
 W.cell? ⟨g,i,jd⟩=A (ja jF (v.getD i 0).toNat):=by
 simp[j4,show W.heap[g]?=_ from h,a,jU,v8]
theorem cI.below{g:I}{v:LBy}(h:cI W g t v)(b:jn B W a)(c:g<B):cI a g t v:=(b.block g c).trans h
theorem aT.below{g:I}{v:je (jl 32)}(h:aT W g t v)(b:jn B W a)(c:g<B):aT a g t v:=(b.block g c).trans h
def kI:je (jl 32):=[0x61707865,0x3320646e,0x79622d32,0x6b206574]
def rm(b:LBy)(i:I):jl 32:=le4 (b.getD i 0) (b.getD (i+1) 0) (b.getD (i+2) 0) (b.getD (i+3) 0)
def mW(a:LBy):I->je (jl 32)
 |0=>kI++mz 12 0
 |i+1=>(mW a i).set (4+i) (rm a (4*i))
def po(a b:LBy)(c:jl 32):I->je (jl 32)
 |0=>(mW a 8).set 12 c
 |i+1=>(po a b c i).set (13+i) (rm b (4*i))
theorem Bq(kb i):(mW kb i).length=16:=by induction i with
 |zero=>rfl
 |succ i a=>simp[mW,a]
theorem Hy(kb nb c i):(po kb nb c i).length=16:=by induction i with
 |zero=>simp[po,Bq]
 |succ i a=>simp[po,a]
def fs(a b:LBy)(c:jl 32):je (jl 32):=po a b c 3
theorem Bc(kb nb c):(fs kb nb c).length=16:=Hy _ _ _ _
theorem ri{b:I×I}{h:jt jh}(a:w.heap[B]?=A (jj h t b)):w.setRow B h=w:=by
 have c:=(jQ.1 a);obtain⟨d,he⟩:=c;unfold World.setRow
 congr 1
 apply Array.ext_getElem?
 intro i;rw[xf]
 split
 ·rename_i e;subst e;simp[d,he]
 rfl
def sL(w:jc):Prop:=Lib.TabIs ji w "chartroom/cipher.constants" .u32 [0x61707865,0x3320646e,0x79622d32,0x6b206574]
theorem sI:ji.globalNamed "chartroom/cipher.constants" =A 7:=by kernel_rfl
theorem lX(h:w.cell? ⟨B,r,jd⟩=A e):B<w.heap.size:=by
 rcases qH B w.heap.size with a|a
 ·exact a
 simp[j4,r8 a]at h
theorem Nj(b:w.cell? ⟨7,0,jd⟩=A (ja jq 0x61707865))(t1:w.cell? ⟨7,1,jd⟩=A (ja jq 0x3320646e))(t2:w.cell? ⟨7,2,jd⟩=A (ja jq 0x79622d32))(c:w.cell? ⟨7,3,jd⟩=A (ja jq 0x6b206574)):
 ∀(j:I) (v:jh),(kI.map cB)[j]?=A v->w.cell? ((⟨7,0,jd⟩:jP).add j)=A v:=by
 intro j v a
 match j,a with
 |0,a=>simp[kI,cB]at a;subst a;exact b
 |1,a=>simp[kI,cB]at a;subst a;exact t1
 |2,a=>simp[kI,cB]at a;subst a;exact t2
 |3,a=>simp[kI,cB]at a;subst a;exact c
 |j+4,a=>simp[kI]at a
theorem gg{p:jP}(h:w.cell? p=A e)(w':a.heap[p.block]?=w.heap[p.block]?):a.cell? p=A e:=by
 unfold j4 at*;rw[w'];exact h
theorem NF(w:jc)(a B C:Obj):((((w.alloc a).alloc B).alloc C).drew).heap[w.heap.size+1+1]?=A C:=by
 show(((w.alloc a).alloc B).alloc C).heap[w.heap.size+1+1]?=A C;have:=jO ((w.alloc a).alloc B) C
 simpa using this
theorem H7(w:jc)(a B C:Obj)(k:I)(b:k<w.heap.size):((((w.alloc a).alloc B).alloc C).drew).heap[k]?=w.heap[k]?:=by
 show(((w.alloc a).alloc B).alloc C).heap[k]?=_;rw[jH _ _ _ (by simp;omega),jH _ _ _ (by simp;omega),jH _ _ _ b]
theorem PU:∀v∈kI.map cB,v.oneCell'=jf:=by
 intro v a;obtain⟨x,_,rfl⟩:=qb.1 a
 rfl
theorem DN(t e:jr)(n:I)(a:P.underlying t=A (.array n e))(c:∀w,(sizeOf e).run P w=.ok 1 w)(g o l:I)(d:l<n)(W:jc):
 (Instr.sliceAt t (jG (A ⟨g,o,jd⟩)) (A (ja jg (l:N))) jd jd).run P W=.ok (jp (A ⟨g,o+l,jd⟩) (n-l) (n-l)) W:=by
 have he:P.elem t=e:=by simp[Program.elem,a]
 have b:P.arrayLen t=n:=by simp[Program.arrayLen,a]
 rw[run_sliceAt_array_l W t _ (by rw[he,b];exact a) .i64 _ Y (by rw[b];omega)];rw[he,b];simp[c,Result.andThen,slicedAt,Addr.add];rw[j5 Y]
 split<;>simp[*]
theorem iK:∀w,(sizeOf 5).run ji w=.ok 1 w:=λw=>by go_simp
theorem Q7(a d:LBy)(c:jl 32)(w:jc)(M:a.length=32)(hn:d.length=12)(f:sL w):
 ju ji 245 #[jS (a.map v8).toArray,jS (d.map v8).toArray,ja jq c.toNat] w λe w'=>
  e=js (jS ((fs a d c).map cB).toArray)/\jn w w w':=by
 have q:w.cell? ⟨7,0,jd⟩=A (ja jq 0x61707865):=f.cell sI 0 G;have u:7<w.heap.size:=lX q;have t1:w.cell? ⟨7,1,jd⟩=A (ja jq 0x3320646e):=f.cell sI 1 G;have t2:w.cell? ⟨7,2,jd⟩=A (ja jq 0x79622d32):=f.cell sI 2 G;have r:w.cell? ⟨7,3,jd⟩=A (ja jq 0x6b206574):=f.cell sI 3 G;generalize y:(a.map v8).toArray=m;generalize z:(d.map v8).toArray=n;replace y:=O y;replace z:=O z;replace f:=O f
 go_enter func245,ntmps245
 go_wp2
 obtain⟨Z,g⟩:∃Z:je jh,Z=mz 16 (ja jq 0):=⟨_,T⟩;have i: #[jb jo 0,jb jo 0,jb jo 0,jb jo 0,
  jb jo 0,jb jo 0,jb jo 0,jb jo 0,
  jb jo 0,jb jo 0,jb jo 0,jb jo 0,
  jb jo 0,jb jo 0,jb jo 0,jb jo 0]=Z.toArray:=by rw[g];rfl
 replace g:=O g;rw[i];replace i:=O i;have j:=NF w (jj m 27) (jj n 192) (jj Z.toArray 345);have h:=H7 w (jj m 27) (jj n 192) (jj Z.toArray 345) 7 u;have o:=Nj (gg q h) (gg t1 h) (gg t2 h) (gg r h);have p:0+(kI.map cB).length<=Z.length:=by rw[g];decide
 replace j:=O j;replace o:=O o;clear h;replace p:=O p
 go_region_law (refine step_copy_splice T (.tmp 9) (.tmp 10) 334 334 T 281 underlying334 T (A ⟨w.heap.size+1+1,0,jd⟩) (A ⟨7,0,jd⟩) 16 16 4 4 (by simp[Act.eval,Act.put]) (by simp[Act.eval,Act.put]) (w.heap.size+1+1) 0 Z 345 j (kI.map cB) T (λ_=>⟨T,_,T,o⟩) p PU (w.heap.size+1+1) _ (jM _ _) (jA _) ?_;intro l s h)
 have v:aT l (w.heap.size+1+1) 345 (mW a 0):=by
  have e:splice Z 0 (kI.map cB)=(mW a 0).map cB:=by rw[g];rfl
  show l.heap[_]?=_;rw[s,e]
 have t:cI l w.heap.size 27 a:=by
  show l.heap[_]?=_;rw[h.block _ Y,y];show(((w.alloc (jj m 27)).alloc (jj n 192)).alloc (jj Z.toArray 345)).heap[w.heap.size]?=_;rw[jH _ _ _ (by simp;omega),jH _ _ _ ar,jO]
 have x:cI l (w.heap.size+1) 192 d:=by
  show l.heap[_]?=_;rw[h.block _ Y,z];show(((w.alloc (jj m 27)).alloc (jj n 192)).alloc (jj Z.toArray 345)).heap[w.heap.size+1]?=_;rw[jH _ _ _ ar];have:=jO (w.alloc (jj m 27)) (jj n 192)
  simpa using this
 have B:jn w w l:=by
  refine Below.trans (b:=(((w.alloc (jj m 27)).alloc (jj n 192)).alloc (jj Z.toArray 345)).drew) ⟨T,T,T,?_,λk M=>H7 w _ _ _ k M⟩ (h.mono Y);show w.heap.size<=(((w.alloc (jj m 27)).alloc (jj n 192)).alloc (jj Z.toArray 345)).heap.size;simp;omega
 have R:=O v;have S:=O t;have U:=O x;have V:=O B;clear v t x B s h p o j g i q t1 t2 r f
 go_wp2_with fail
 go_loopw [12] (λi wr=>∃j:I,i=ja jg j/\j<=8/\jm (aT wr (w.heap.size+1+1) 345 (mW a j))/\jm (bQ (w.heap.size+1+1) l wr)) (λi _=>(8-jC i).toNat)
 case atStart=>exact⟨0,T,by omega,R,bQ.refl _ _⟩
 obtain⟨j,rfl,X,g,k⟩:=hrel
 by_cases u:j<8
 ·have h:cI wr (w.heap.size) 27 a:=(k.block _ Y).trans S
  have o:=h.cell (i:=4*j) Y;have p:=h.cell (i:=4*j+1) Y;have r:=h.cell (i:=4*j+2) Y;have s:=h.cell (i:=4*j+3) Y;have F:=g.frozen (4+j);have C:=g.cell (i:=4+j) (by rw[Bq];omega);have v:=O o;have B:=O p;have D:=O r;have E:=O s;clear o p r s h;have aa:∀W,(Instr.sliceAt 27 (jG (A ⟨w,0,jd⟩)) (A (ja jg (4*(j:N)))) jd jd).run ji W=.ok (jp (A ⟨w,4*j,jd⟩) (32-4*j) (32-4*j)) W:=λW=>by
   have:=DN (P:=ji) 27 5 32 underlying27 iK (w.heap.size) 0 (4*j) Y W
   simpa using this
  go_wp2_with fail
  refine(Ec _ _ _ _ ?_ ?_ _ _ _ _ _ v.out B D E).mono ?_
  ·omega
  ·omega
  rintro e w' ⟨rfl,q,rfl⟩;have f:le4 (a.getD (4*j) 0) (a.getD (4*j+1) 0) (a.getD (4*j+2) 0) (a.getD (4*j+3) 0)=rm a (4*j):=T;rw[f];clear f;obtain⟨x,f⟩:=J (rm a (4*j));rw[<-f];have H:=O f;clear f
  go_wp2
  go_roundw
  case rel=>
   refine⟨j+1,by go_num,by omega,?_,?_⟩
   ·show aT _ _ _ (qZ _ _ _)
    rw[<-H];exact aT.set (W:=wr.drewN q) g _ _
   exact k.trans (bQ.trans (b:=wr.drewN q) ⟨T,T,T,T,λ_ _=>rfl⟩ (bQ.setCell _ _ _ _))
  case measure=>simp[jC];omega
 have Q:j=8:=Y;have K:jm (aT wr (w.heap.size+1+1) 345 (mW a 8)):=Q▸g;clear g Q;have F:=K.frozen 12;have C:=K.cell (i:=12) (by rw[Bq];omega)
 go_wp2_with fail
 clear F C
 go_loopw [25] (λi wr=>∃j:I,i=ja jg j/\j<=3/\jm (aT wr (w.heap.size+1+1) 345 (po a d c j))/\jm (bQ (w.heap.size+1+1) l wr)) (λi _=>(3-jC i).toNat)
 case atStart=>
  refine⟨0,T,by omega,?_,?_⟩
  ·exact aT.set (W:=wr) K _ _
  exact k.trans (bQ.setCell _ _ _ _)
 obtain⟨j,rfl,X,g,k⟩:=hrel
 by_cases u:j<3
 ·have h:cI wr (w.heap.size+1) 192 d:=(k.block _ Y).trans U
  have o:=h.cell (i:=4*j) Y;have p:=h.cell (i:=4*j+1) Y;have r:=h.cell (i:=4*j+2) Y;have s:=h.cell (i:=4*j+3) Y;have F:=g.frozen (13+j);have C:=g.cell (i:=13+j) (by rw[Hy];omega);have v:=O o;have B:=O p;have D:=O r;have E:=O s;clear o p r s h;have aa:∀W,(Instr.sliceAt 192 (jG (A ⟨w.heap.size+1,0,jd⟩)) (A (ja jg (4*(j:N)))) jd jd).run ji W=.ok (jp (A ⟨w.heap.size+1,4*j,jd⟩) (12-4*j) (12-4*j)) W:=λW=>by
   have:=DN (P:=ji) 192 5 12 underlying192 iK (w.heap.size+1) 0 (4*j) Y W
   simpa using this
  go_wp2_with fail
  refine(Ec _ _ _ _ ?_ ?_ _ _ _ _ _ v.out B D E).mono ?_
  ·omega
  ·omega
  rintro e w' ⟨rfl,q,rfl⟩;have f:le4 (d.getD (4*j) 0) (d.getD (4*j+1) 0) (d.getD (4*j+2) 0) (d.getD (4*j+3) 0)=rm d (4*j):=T;rw[f];clear f;obtain⟨x,f⟩:=J (rm d (4*j));rw[<-f];have H:=O f;clear f
  go_wp2
  go_roundw
  case rel=>
   refine⟨j+1,by go_num,by omega,?_,?_⟩
   ·show aT _ _ _ (qZ _ _ _)
    rw[<-H];exact aT.set (W:=wr.drewN q) g _ _
   exact k.trans (bQ.trans (b:=wr.drewN q) ⟨T,T,T,T,λ_ _=>rfl⟩ (bQ.setCell _ _ _ _))
  case measure=>simp[jC];omega
 have f:j=3:=Y;have r:jm (aT wr (w.heap.size+1+1) 345 (po a d c 3)):=f▸g;clear g f;have h:wr.heap[w.heap.size+1+1]?=A (jj ((fs a d c).map cB).toArray 345 (0,0)):=r.out;have o:((fs a d c).map cB).toArray.size=16:=by rw[jW,j9,Bc]
 have p:((fs a d c).map cB).toArray.all (·.oneCell')=jf:=by
  rw[qe];intro v f;obtain⟨x,_,rfl⟩:=qb.1 (ak f)
  rfl
 have s:jm (jn w w wr):=V.trans (k.below Y);generalize g:((fs a d c).map cB).toArray=f at h o p;have x:=O g;clear g;have g:=O h;have q:=O o;have B:=O p;clear h o p
 go_upto_region 13 with fail
 refine qk ?_;refine ql T 345 _ T (w.heap.size+1+1) T 345 f (0,0) _ g.out qS T (by rw[q];rfl) ?_;refine qn T λ_ t=>rv 345 _ _ T (w.heap.size+1+1) f T T 345 f g.out (by rw[q];rfl) T B (t _ _ ?_)
 rw[ri g]
 go_wp2_with fail
 refine o1 (v:=jS f) ?_ T ?_
 ·exact r4 T _ _ _ 345 _ (0,0) _ T g qS T (by rw[q];rfl)
 exact⟨by rw[x],s⟩
def om(v:je (jl 32)):I->je (jl 32)
 |0=>v
 |i+1=>qr (om v i) i (4+i) (8+i) (12+i)
def tY(v:je (jl 32)):I->je (jl 32)
 |0=>v
 |i+1=>qr (tY v i) i (4+(i+1)%4) (8+(i+2)%4) (12+(i+3)%4)
def gs(v:je (jl 32)):I->je (jl 32)
 |0=>v
 |r+1=>tY (om (gs v r) 4) 4
theorem wU(v i):(om v i).length=v.length:=by induction i with
 |zero=>rfl
 |succ i a=>rw[om,CR,a]
theorem DK(v i):(tY v i).length=v.length:=by induction i with
 |zero=>rfl
 |succ i a=>rw[tY,CR,a]
theorem G7(v i):(gs v i).length=v.length:=by induction i with
 |zero=>rfl
 |succ i a=>rw[gs,DK,wU,a]
theorem L6(g:I)(t:jr)(v:je (jl 32))(a:v.length=16)(i:I)(b:i<4)(w:jc)(h:aT w g t v):
 ju ji 246 #[jG (A ⟨g,0,jd⟩),ja jg i,ja jg (4+(i:N)),ja jg (8+(i:N)),ja jg (12+(i:N))] w λe w'=>
  e=js (jL #[])/\bQ g w w'/\aT w' g t (qr v i (4+i) (8+i) (12+i)):=by
 have:=FN g t v a i (4+i) (8+i) (12+i) Y Y Y Y w h
 simpa using this
theorem PR(g:I)(t:jr)(v:je (jl 32))(a:v.length=16)(i:I)(b:i<4)(w:jc)(h:aT w g t v):
 ju ji 246 #[jG (A ⟨g,0,jd⟩),ja jg i,ja jg (4+((i:N)+1)%4),ja jg (8+((i:N)+2)%4),ja jg (12+((i:N)+3)%4)] w λe w'=>
  e=js (jL #[])/\bQ g w w'/\aT w' g t (qr v i (4+(i+1)%4) (8+(i+2)%4) (12+(i+3)%4)):=by
 have:=FN g t v a i (4+(i+1)%4) (8+(i+2)%4) (12+(i+3)%4) Y Y Y Y w h
 simpa using this
theorem tN:(ji.info? 5).map (λi=>(i.zero,i.size,i.bytes))=A (A (ja jF 0),1,1):=by kernel_rfl
theorem J2(w:jc)(l:je jh)(t:jr):∀j a,l[j]?=A a->(w.alloc (jj l.toArray t)).cell? ((⟨w,0,jd⟩:jP).add j)=A a:=by
 intro j a b;have c:(⟨w,0,jd⟩:jP).add j=⟨w,j,jd⟩:=by unfold Addr.add;split<;>simp_all
 rw[c];have d:=jO w (jj l.toArray t);simp only[j4,d]
 simpa using b
theorem aT.not_row{e:jr}{a:je (jl 32)}(h:aT W B t a)(b:t≠e){base size k:I}{v:jh}{xs:je jh}(c:W.ownsRow base e size v k xs):A B≠v.ownBlock:=by
 rcases c.2 with⟨rfl,_⟩|⟨g,i,j,rfl,_,d,_⟩
 ·simp[xh]
 intro f;obtain rfl:B=g:=by simpa [xh]using f
 have:=(show W.heap[B]?=_ from h).symm.trans d;simp at this;exact b this.2
theorem aT.grown(h:aT W B t b){c:jE I}(d:W.grownBy a c)(e:A B≠c):aT a B t b:=(d.block B h.lt e).trans h
def te(x:jl 32):LBy:=[x.setWidth 8,(x>>>8).setWidth 8,(x>>>16).setWidth 8,(x>>>24).setWidth 8]
def m6(v s:je (jl 32)):I->LBy
 |0=>[]
 |i+1=>m6 v s i++te (v.getD i 0+s.getD i 0)
def oP(a b:LBy)(c:jl 32):LBy:=m6 (gs (fs a b c) 10) (fs a b c) 16
theorem Gb(x:jl 32):(x.toNat:N)%256=((x.setWidth 8).toNat:N):=by rw[qN];simp
theorem yV(x:jl 32)(n d:I)(a:d=2^n):(x.toNat:N)/(d:N)%256=(((x>>>n).setWidth 8).toNat:N):=by
 rw[zY x n d a,Gb]
theorem size46:∀w,(sizeOf 281).run ji w=.ok 1 w:=λw=>by go_simp
theorem agg46:∀w,(isAgg 281).run ji w=.ok jz w:=λw=>by go_simp
theorem Ob(V:je (jl 32))(c:V.length=16)(k:I)(b:k<16)(W:jc):
 (Instr.index 345 (jS (V.map cB).toArray) (ja jg (k:N))).run ji W=.ok (ja jq ((V.getD k 0).toNat:N)) W:=by
 have d:=qS;have e:(0:N)<=(k:N)/\(k:N)<((16:I):N):=Y;have a:V[k]?=A (V.getD k 0):=by simp[c,b,jU]
 unfold Instr.index;simp only[xM]at a⊢;generalize V[k]?.getD 0=x at a⊢;simp[asIntOf,xt d,part,a,b]
theorem RV:(ji.info? 345).map (·.size)=A 16:=by kernel_rfl
theorem Hc(w:jc)(c a:jt jh)(d:c.size=16)(b:a.size=16)(e:a.all (·.oneCell')=jf):
 (storeCells ⟨w,0,jd⟩ a.toList 0).run ji (w.alloc (jj c 345))=.ok () (w.alloc (jj a 345)):=
 run_storeCells_new w _ c a (by rw[RV,b]) (by rw[d,b]) e
theorem Jo(b f:LBy)(c:jl 32)(w:jc)(m:b.length=32)(Q:f.length=12)(d:sL w):
 ju ji 208 #[jS (b.map v8).toArray,jS (f.map v8).toArray,ja jq c.toNat] w λe w'=>
  ∃v,e=js v/\w'.ownsRow w 5 1 v 64 ((oP b f c).map v8)/\jn w w w':=by
 have ay:7<w.heap.size:=lX (d.cell sI 0 G);have g:(b.map v8).toArray.size=32:=by simp[m]
 have i:(f.map v8).toArray.size=12:=by simp[Q]
 have a:=λw h=>Q7 b f c w m Q h
 generalize j:(b.map v8).toArray=y at g a⊢;generalize k:(f.map v8).toArray=z at i a⊢;have V:=O j;have W:=O k;have F:=O a;have H:=O d;have K:=O g;have M:=O i;clear a d j k g i;obtain⟨R,S,U,n,o⟩:=qc tN
 go_enter func208,ntmps208
 go_upto_region 1 with fail
 refine qk ?_;refine ql T 27 _ T w.heap.size T 27 y (0,0) _ ((jH _ _ _ ar).trans (jO w _)) underlying27 T (by rw[K];rfl) ?_;refine ql T 192 _ T (w.heap.size+1) T 192 z (0,0) _ (by have:=jO (w.alloc (jj y 27)) (jj z 192);simpa using this) underlying192 T (by rw[M];rfl) ?_
 go_wp2_with fail
 refine(F _ ?_).mono ?_
 ·exact(Lib.tabBelow_of_tabIs H) _ ⟨T,T,T,by simp;omega,λk m=>by rw[jH _ _ _ (by simp;omega),jH _ _ _ m]⟩
 rintro e a ⟨rfl,j⟩;have d:((fs b f c).map cB).toArray.size=16:=by rw[jW,j9,Bc]
 have i:((fs b f c).map cB).toArray.all (·.oneCell')=jf:=by
  rw[qe];intro v g;obtain⟨x,_,rfl⟩:=qb.1 (ak g)
  rfl
 generalize l:((fs b f c).map cB).toArray=g at d i⊢;have q:=O l;have r:=O i;have s:=O j;clear l i j;have i:=Hc a #[jb jo 0,jb jo 0,jb jo 0,jb jo 0,jb jo 0,jb jo 0,jb jo 0,jb jo 0,jb jo 0,jb jo 0,jb jo 0,jb jo 0,jb jo 0,jb jo 0,jb jo 0,jb jo 0] g T d r
 go_upto_region 2 with fail
 clear i;refine qk ?_;refine ql T 345 _ T a.heap.size T 345 g (0,0) _ (jO a _) qS T (by rw[d];rfl) ?_;have i:=Hc (a.alloc (jj g 345)) #[jb jo 0,jb jo 0,jb jo 0,jb jo 0,jb jo 0,jb jo 0,jb jo 0,jb jo 0,jb jo 0,jb jo 0,jb jo 0,jb jo 0,jb jo 0,jb jo 0,jb jo 0,jb jo 0] g T d r;rw[j8]at i
 go_upto_region 4 with fail
 clear i;have i:aT ((a.alloc (jj g 345)).alloc (jj g 345)) (a.heap.size+1) 345 (gs (fs b f c) 0):=by
  have:=jO (a.alloc (jj g 345)) (jj g 345);rw[j8]at this;show _ =A (Obj.cells ((fs b f c).map cB).toArray 345 (0,0));rw[q];exact this
 have l:aT ((a.alloc (jj g 345)).alloc (jj g 345)) a.heap.size 345 (fs b f c):=by
  show _ =A (Obj.cells ((fs b f c).map cB).toArray 345 (0,0));rw[q,jH _ _ _ ar];exact jO a _
 have t:jn w w ((a.alloc (jj g 345)).alloc (jj g 345)):=by
  have j:jn w w ((w.alloc (jj y 27)).alloc (jj z 192)):=
   ⟨rfl,rfl,rfl,by simp;omega,λk m=>by rw[jH _ _ _ (by simp;omega),jH _ _ _ m]⟩
  have p:=j.trans (s.mono (by simp;omega));have B:=p.size;exact p.trans ⟨T,T,T,by simp;omega,λk m=>by rw[jH _ _ _ (by simp;omega),jH _ _ _ Y]⟩
 have aa:w.heap.size<=a.heap.size:=by have:=s.size;simp at this;omega
 obtain⟨u,C⟩:=J ((a.alloc (jj g 345)).alloc (jj g 345));rw[<-C]at i l t⊢;have ac:a.heap.size+2<=u.heap.size:=by rw[C];simp
 obtain⟨j,P⟩:=J a.heap.size;rw[<-P]at i l aa ac⊢;have D:=O i;have E:=O l;have v:=O t;clear i l t C d r s q H F V W K M P;clear a;have C:(fs b f c).length=16:=Bc _ _ _;have F:jm (oP b f c=m6 (gs (fs b f c) 10) (fs b f c) 16):=O T;generalize fs b f c=a at D E C F
 go_wp2_with fail
 go_loopw [21] (λt wr=>∃r:I,t=ja jg r/\r<=10/\jm (aT wr (j+1) 345 (gs a r))/\jm (bQ (j+1) u wr)) (λt _=>(10-jC t).toNat)
 case atStart=>exact⟨0,T,by omega,D,bQ.refl _ _⟩
 obtain⟨r,rfl,hr,H,l⟩:=hrel
 by_cases a1:r<10
 ·have a2:=az ((r:N)<10)
  have V:=O (show(gs a r).length=16 by rw[G7];exact C)
  go_wp2_with fail
  go_loopw [23] (λt d=>∃i:I,t=ja jg i/\i<=4/\jm (aT d (j+1) 345 (om (gs a r) i))/\jm (bQ (j+1) u d)) (λt _=>(4-jC t).toNat)
  case atStart=>exact⟨0,T,by omega,H,l⟩
  obtain⟨i,rfl,hi,d,W⟩:=hrel
  by_cases ad:i<4
  ·go_wp2_with fail
   refine(L6 _ _ _ ?_ i ad _ d.out).mono ?_
   ·rw[wU];exact V
   rintro e w' ⟨rfl,q,s⟩;have K:=O (W.trans q);have M:=O s;clear q s
   go_wp2
   go_roundw
   case rel=>exact⟨i+1,by go_num,by omega,M,K⟩
   case measure=>simp[jC];omega
  have a3:=aw ((i:N)<4);have P:i=4:=Y;have au:jm (aT wr (j+1) 345 (om (gs a r) 4)):=P▸d;clear d P
  go_wp2_with fail
  go_loopw [36] (λt P=>∃d:I,t=ja jg d/\d<=4/\jm (aT P (j+1) 345 (tY (om (gs a r) 4) d))/\jm (bQ (j+1) u P)) (λt _=>(4-jC t).toNat)
  case atStart=>exact⟨0,T,by omega,au,W⟩
  obtain⟨d,rfl,hd,P,X⟩:=hrel
  by_cases ax:d<4
  ·go_wp2_with fail
   refine(PR _ _ _ ?_ d ax _ P.out).mono ?_
   ·rw[DK,wU];exact V
   rintro e w' ⟨rfl,q,s⟩;have K:=O (X.trans q);have M:=O s;clear q s
   go_wp2
   go_roundw
   case rel=>exact⟨d+1,by go_num,by omega,M,K⟩
   case measure=>simp[jC];omega
  have q:d=4:=Y;have s:jm (aT wr (j+1) 345 (gs a (r+1))):=by
   have h:=P;rw[q]at h;exact h
  clear P q
  go_wp2
  go_roundw
  case rel=>exact⟨r+1,by go_num,by omega,s,X⟩
  case measure=>simp[jC];omega
 have d:r=10:=Y;have K:jm (aT wr (j+1) 345 (gs a 10)):=d▸H;clear H d
 go_upto_region 17 with fail
 refine qk ?_;refine wpList_make_own wr T _ _ 30 T w.heap.size 5 R (ja jF 0) 1 jR S U n .i64 .i64 64 64 T T T (by rw[o];decide) (by unfold jY;omega) ?_ ?_
 ·have:=l.size;have:=v.size;omega
 intro q ad d;have M:aT q (j+1) 345 (gs a 10):=K.grown d ar;have P:aT q j 345 a:=aT.grown ((l.block _ Y).trans E) d ar;have V:jn w w q:=(v.trans (l.below Y)).grown d (by have:=l.size;have:=v.size;omega) ar;have s:(gs a 10).length=16:=by rw[G7];exact C
 have H:=O M;have VL:=O P;have Uj:=O V;clear M P V K l E D v d;generalize gs a 10=V at H s F
 go_upto_region 18 with fail
 refine qk ?_;refine ql T 345 _ T (j+1) T 345 (V.map cB).toArray (0,0) _ H.out qS T (by rw[jW,j9,s];rfl) ?_;have d:∀(k:I) (m:k<16) (W:jc),(Instr.index 345 (jS (V.map cB).toArray) (ja jg (k:N))).run ji W=.ok (ja jq ((V.getD k 0).toNat:N)) W:=λk m W=>Ob V s k m W
 generalize(V.map cB).toArray=a2 at d⊢;have K:=O d;clear d H
 go_wp2_with fail
 go_loopw [12,58] (λl t wr=>∃k:I,t=ja jg k/\k<=16/\wr.ownsRow w 5 1 l (4*k) ((m6 V a k).map v8)/\jm (aT wr j 345 a)/\jm (jn w w wr)) (λ_ t _=>(16-jC t).toNat)
 case atStart=>exact⟨0,T,by omega,ad,VL,Uj⟩
 obtain⟨k,rfl,a3,d,t,v⟩:=hrel
 by_cases ZD:k<16
 ·have H:=K k ZD
  have M:=t.cell (i:=k) Y;have l:m6 V a (k+1)=m6 V a k++te (V.getD k 0+a.getD k 0):=T;generalize V.getD k 0=P at H l;generalize a.getD k 0=xs at M l;have D:=O l;clear l
  go_upto_region 22 with fail
  rw[ln P xs];generalize hx:P+xs=x at D⊢;have au:(x.toNat:N)%256=_:=Gb x;have ax:(x.toNat:N)/256%256=_:=yV x 8 256 G;have Up:(x.toNat:N)/65536%256=_:=yV x 16 65536 G;have E:(x.toNat:N)/(16777216:N)=(((x>>>24).setWidth 8).toNat:N):=by
   have:=yV x 24 16777216 G;have l:=x.isLt;rw[<-this];omega
  generalize B:x.setWidth 8=l at au;generalize n:(x>>>8).setWidth 8=y1 at ax;generalize o:(x>>>16).setWidth 8=y2 at Up;generalize X:(x>>>24).setWidth 8=y3 at E;have HY:jm (te x=[l,y1,y2,y3]):=O (by rw[te,B,n,o,X]);clear hx B n o X H M;have M:=v.size;have H:(m6 V a k++te x).map v8=(m6 V a k).map v8++[ja jF l.toNat,ja jF y1.toNat,ja jF y2.toNat,ja jF ((x.toNat:N)/(16777216:N))]:=by
   rw[HY,E];simp[v8]
  clear E;rw[<-D]at H;have X:=O H;clear H D HY
  go_wp2_with (at_builtin;refine r5 _ T _ _ 30 T w.heap.size 5 R (ja jF 0) 1 1 jR S U n o T G _ _ _ T (d.alloc _) ⟨wr,0,jd⟩ 4 4 [ja jF l.toNat,ja jF y1.toNat,ja jF y2.toNat,ja jF ((x.toNat:N)/(16777216:N))] T T (J2 _ _ _) (by simp[q7]) (by unfold jY;omega) Y (by simp;omega) ?_;intro H w4 D E _)
  rw[<-X]at D;go_roundw
  case rel=>
   refine⟨k+1,by go_num,by omega,D,?_,?_⟩
   ·have p:aT (wr.alloc (jj #[ja jF l.toNat,ja jF y1.toNat,ja jF y2.toNat,ja jF ((x.toNat:N)/(16777216:N))] 5)) j 345 a:=(jH _ _ _ t.lt).trans t
    exact p.grown E (p.not_row G (d.alloc _))
   exact(v.alloc M _).grown E (by simp;omega) (λk e=>(d.lt k e).1)
  case measure=>simp[jC];omega
 have i:k=16:=Y;rw[i,<-F]at d;have l:=O d;clear d i K
 go_wp2
 go_ret;exact⟨_,T,l,v⟩
theorem sl{i:I}{o:I}{xs:je jh}(h:w.ownsRow B t i e o xs)(b:r<=B):w.ownsRow r t i e o xs:=by
 refine⟨h.1,?_⟩
 rcases h.2 with c|⟨g,d,f,size,j,k⟩
 ·exact .inl c
 exact .inr ⟨g,d,f,size,qa b j,k⟩
def bD(w:jc)(v:jh)(l:LBy):Prop:=
 ∃(p:jE jP) (c:I),v=jp p l.length c/\l.length<=c/\(p=jd->c=0)/\
  (0<l.length->∃g o,p=A ⟨g,o,jd⟩/\∀j,j<l.length->w.cell? ⟨g,o+j,jd⟩=A (ja jF (l.getD j 0).toNat))
theorem J9(w:jc):
 ju ji 206 #[jp jd 0 0] w λe w'=>e=js (jp jd 0 0)/\w=w':=by
 have d:∀(w:jc) (a:jE jP) (n c n' b:I),(binOp .eql 30 (jp a n c) (jp jd n' b)).run ji w=.ok (.bool a.isNone) w:=λw a n c n' b=>Lib.run_eql_slice_nil w _ _ a n c n' b jR
 go_enter func206,ntmps206
 go_wp2
 go_ret;exact⟨T,T⟩
theorem Tm(g o c:I)(l:LBy)(t:l.length<=1000000)(w:jc)(h:∀j,j<l.length->w.cell? ⟨g,o+j,jd⟩=A (ja jF (l.getD j 0).toNat)):
 ju ji 206 #[jp (A ⟨g,o,jd⟩) l.length c] w λe w'=>∃v,e=js v/\w'.ownsRow w 5 1 v l.length (l.map v8)/\jn w w w':=by
 have D:∀(w:jc) (a:jE jP) (n c n' f:I),(binOp .eql 30 (jp a n c) (jp jd n' f)).run ji w=.ok (.bool a.isNone) w:=λw a n c n' f=>Lib.run_eql_slice_nil w _ _ a n c n' f jR
 obtain⟨u,y,z,B,C⟩:=qc tN;have m:∀j b,(l.map v8)[j]?=A b->(w.alloc (jj #[] 5)).cell? ((⟨g,o,jd⟩:jP).add j)=A b:=by
  intro j b i;have d:j<l.length:=by
   have:=(ow.1 i).1
   simpa using this
  have p:(⟨g,o,jd⟩:jP).add j=⟨g,o+j,jd⟩:=by unfold Addr.add;split<;>simp_all
  rw[p];have k:b=ja jF (l.getD j 0).toNat:=by
   simp[d]at i;simp[<-i,v8,d,jU]
  rw[k];exact gg (h j d) (jH _ _ _ (lX (h j d)))
 have i:(w.alloc (jj #[] 5)).ownsRow w.heap.size 5 1 (jp (A ⟨w,0,jd⟩) 0 0) 0 []:=
  ⟨rfl,.inr ⟨w.heap.size,0,#[],rfl,jA _,jO w _,jA _,by unfold jY;omega,rfl,rfl⟩⟩
 have p:∀b∈l.map v8,b.oneCell'=jf:=by
  intro b k;obtain⟨x,_,rfl⟩:=qb.1 k
  rfl
 have q:=O m;have r:=O i;have s:=O p;have k:(l.map v8).length=l.length*1:=by simp
 have d:=O k;clear m i p k h;obtain⟨i,h⟩:=J (l.map v8);rw[<-h]at q s d⊢;clear h;generalize l.length=n at t d⊢
 go_enter func206,ntmps206
 go_wp2_with (at_builtin;refine r5 _ T _ _ 30 T w.heap.size 5 u (ja jF 0) 1 1 jR y z B C T G _ _ _ T r ⟨g,o,jd⟩ n c i T d q s (by unfold jY;omega) Y ar ?_;intro h E m p _)
 go_ret;refine⟨h,T,by simpa using m,?_⟩;exact Below.grown (w:=w.alloc (jj #[] 5)) ⟨T,T,T,by simp,λk x=>jH _ _ _ x⟩ p ar (λk e=>(r.lt k e).1)
def rI(l:LBy):je N:=l.map λb=>(b.toNat:N)
theorem Sv(l):(rI l).length=l.length:=by simp[rI]
def Bl(l:LBy):ByteArray:=strOfNums (rI l)
theorem Jb(h:bD w e d):(convert 30 9 e).run ji w=.ok (qF (Bl d)) w:=by
 obtain⟨p,c,rfl,j,k,l⟩:=h;refine Lib.BytesIn.convert (xs:=rI d) ?_ (Sv d) c _ 5 _ jR qP qA
 rcases qg d.length with a|a
 ·rw[a]
  exact Lib.BytesIn.nil _ _ _
 obtain⟨g,o,rfl,v⟩:=l a;refine Lib.BytesIn.of_cells λi b=>?_
 have f:(⟨g,o,jd⟩:jP).add i=⟨g,o+i,jd⟩:=by unfold Addr.add;split<;>simp_all
 rw[f,v i b];simp[rI,b,jU]
theorem Tt(n:I)(q:n<=1000000)(w:jc):
 ju ji 161 #[jp jd 0 0,ja jg n] w λe w'=>∃v,e=js v/\w'.ownsRow w 5 1 v 0 []/\jn w w w':=by
 rcases qg n with b|b
 ·subst b
  go_enter func161,ntmps161
  go_wp2
  go_ret;exact⟨_,T,xi _ _ _ _,jM _ _⟩
 obtain⟨i,f,g,j,h⟩:=qc tN;have a:=Lib.run_append_nil_zeros (P:=ji) w 30 3 30 5 i (ja jF 0) .i64 .i64 jR jN f g n b Y Y (by rw[h];omega);have l:=grownCap_ge w n 0 5;have c:=grownCap_le_maxLen w n 0 5 (by unfold jY;omega);generalize grownCap w n 0 5=C at a l c;have d:(Builtin.zeroCells (jb .u8 0).cells n++Builtin.zeroCells (jb .u8 0).cells (C-n)).size=C*1:=by
  simp[Builtin.zeroCells,Value.cells];omega
 generalize Builtin.zeroCells (jb .u8 0).cells n++Builtin.zeroCells (jb .u8 0).cells (C-n)=Z at a d;have m:=O a;have o:=O d;have p:=O c;clear a d c f g j h;have c:(0:N)<(n:N):=Y
 go_enter func161,ntmps161
 go_wp2_with (at_builtin;refine Lib.wpList_append_run _ T _ _ 30 3 T _ _ T T _ _ m.out ?_)
 go_ret;refine⟨_,T,⟨T,.inr ⟨w.heap.size,C,Z,T,jA _,jO w.drew _,qi _,p,o,T⟩⟩,?_⟩;exact⟨T,T,T,by simp,λk a=>jH w.drew _ _ a⟩
theorem Mp(l:LBy):∀a∈l.map v8,a.oneCell'=jf:=by
 intro a b;obtain⟨x,_,rfl⟩:=qb.1 b
 rfl
theorem Qo(g o j:I):(⟨g,o,jd⟩:jP).add j=⟨g,o+j,jd⟩:=by unfold Addr.add;split<;>simp_all
theorem Dq{w:jc}{k:jt jy}{m:je jy}{o:jy}{a:Act}{q:jT->Act->jc->Prop}(r:o.guard=jd)(s x:ms)
 (t:o.op=.call {callee:=.builtin .append,args:=#[s,x],argTypes:=#[30,30]}) (base:I)
 (v:jh) (n:I) (xs:je jh) (u:a.eval s=v) (d:w.ownsRow base 5 1 v n xs) (f:jh) (l:LBy) (y:a.eval x=f) (C:bD w f l)
 (R:n+l.length<=100000000) (D:base<=w.heap.size)
 (h:∀b w',w'.ownsRow base 5 1 b (n+l.length) (xs++l.map v8)->w.grownBy w' v.ownBlock->n0 ji k q m (a.put o.dst b) w'):n0 ji k q (o::m) a w:=by
 obtain⟨z,B,E,F,H⟩:=qc tN;obtain⟨p,c,rfl,S,K,M⟩:=C
 rcases p with _|P
 ·have e:=K T
  subst e;have g:l=[]:=vi Y;subst g;exact wpList_append_own_none r s x 30 t base 5 z 1 jR B v n xs u d y (h v w (ak d) (qX.refl _ _))
 refine r5 w r s x 30 t base 5 z (ja jF 0) 1 1 jR B E F H T G v n xs u d P l.length c (l.map v8) y ar ?_ (Mp l) (by unfold jY;omega) Y D (λb w' e g _=>h b w' e g);intro j f b;have i:j<l.length:=by
  have:=(ow.1 b).1
  simpa using this
 obtain⟨g,o,e,Q⟩:=M Y;obtain rfl:=wi.inj e;rw[Qo,Q j i];simp[i]at b;simp[<-b,v8,i,jU]
theorem bD.below{v:jh}{l:LBy}(h:bD w v l)(d:jn w w w'):bD w' v l:=by
 obtain⟨p,c,rfl,f,i,k⟩:=h;refine⟨p,c,T,f,i,λm=>?_⟩;obtain⟨g,o,e,a⟩:=k m;exact⟨g,o,e,λj b=>gg (a j b) (d.block _ (lX (a j b)))⟩
theorem bD.of_own{v:jh}{l:LBy}(h:w.ownsRow B 5 1 v l.length (l.map v8)):bD w v l:=by
 rcases h.2 with⟨rfl,c⟩|⟨g,d,f,rfl,n,i,k,o,p,m⟩
 ·exact⟨jd,0,by rw[c],by omega,λ_=>rfl,λa=>by omega⟩
 refine⟨A ⟨g,0,jd⟩,d,T,k,λe=>by simp at e,λ_=>⟨g,0,rfl,λj a=>?_⟩⟩;have b:(f.toList.take (l.length*1))[j]?=(l.map v8)[j]?:=by rw[m]
 simp only[j4,i];have q:j<l.length*1:=Y;simp[a]at b;simp[b,v8,jU,a]
def fZ(a:je (LBy))(k:I):LBy:=(a.take k).flatten
theorem Il(a:je (LBy))(k:I)(b:k<a.length):fZ a (k+1)=fZ a k++a.getD k []:=by
 unfold fZ;rw[List.take_add_one,xN];simp[b,jU]
theorem A5(a:je (LBy))(k:I):(fZ a k).length<=a.flatten.length:=by
 have h:a.flatten=fZ a k++(a.drop k).flatten:=by
  unfold fZ;rw[<-xN,List.take_append_drop]
 rw[h];simp
theorem uH(g m:I)(t:jr)(f:je jh)(a:je (LBy))(u:f.length=m)(x:a.length=m)(M:a.flatten.length<=1000000)(w:jc)
 (b:w.heap[g]?=A (jj f.toArray t (0,0))) (c:∀i,i<m->bD w (f.getD i jB) (a.getD i [])) (P:m<=1000):
 ju ji 111 #[jp (A ⟨g,0,jd⟩) m m] w λe w'=>∃v,e=js v/\w'.ownsRow w 5 1 v a.flatten.length (a.flatten.map v8)/\jn w w w':=by
 have y:g<w.heap.size:=(jQ.1 b).1;have o:jm (∀i,i<m->w.cell? ⟨g,i,jd⟩=A (f.getD i jB)):=O λi z=>by
  simp[j4,b,u,z,jU]
 have r:=O c;clear c b
 go_enter func111,ntmps111
 go_wp2_with fail
 go_loopw [3,11] (λs b wr=>∃k:I,b=ja jg k/\k<=m/\s=ja jg ((fZ a k).length:I)/\wr=w) (λ_ b _=>(m-jC b).toNat)
 case atStart=>exact⟨0,T,by omega,rfl,rfl⟩
 obtain⟨k,rfl,Q,rfl,c⟩:=hrel;have B:=c.symm;subst B;clear c
 by_cases s:k<m
 ·have l:=o k s
  have C:=A5 a (k+1);have d:=Il a k Y;obtain⟨p,c,j,D,E,n⟩:=r k s;rw[j]at l;have h:(fZ a (k+1)).length=(fZ a k).length+(a.getD k []).length:=by rw[d];simp
  clear j n d;generalize(a.getD k []).length=n at l h D;have j:=O h;clear h;generalize(fZ a k).length=q at j⊢;have F:¬((q:N)+(n:N)<0):=Y;have H:q+n<=1000000:=aI j
  go_wp2
  refine⟨⟨k+1,by go_num,by omega,?_,trivial⟩,by simp[jC];omega⟩;rw[j];simp
 have R:jm (k=m):=O Y;have C:=A5 a k
 go_wp2_with fail
 refine(Tt _ Y _).mono ?_;rintro e S ⟨v,rfl,D,c⟩;have E:=O c;clear c
 go_wp2_with fail
 go_loopw [6,27] (λl b c=>∃j:I,b=ja jg j/\j<=m/\c.ownsRow w 5 1 l (fZ a j).length ((fZ a j).map v8)/\jm (jn w w c)) (λ_ b _=>(m-jC b).toNat)
 case atStart=>exact⟨0,T,by omega,by simpa [fZ]using D,E⟩
 obtain⟨j,rfl,U,b,c⟩:=hrel
 by_cases n:j<m
 ·have F:=gg (o j n) (c.block _ y)
  have l:=(r j n).below c;have d:=Il a j Y;have p:=A5 a (j+1);generalize f.getD j jB=V at F l;generalize a.getD j []=q at d l;have W:=c.size;have h:(fZ a j).length+q.length<=1000000:=by rw[d,xj]at p;omega
  have H:=O d;have K:=O l;clear d l p
  go_wp2_with (at_builtin;refine Dq T _ _ T w.heap.size _ _ _ T b _ q T K Y Y ?_;intro p X d l)
  go_roundw
  case rel=>
   refine⟨j+1,by go_num,by omega,?_,c.grown l Y (λk e=>(b.lt k e).1)⟩;rw[H]
   simpa using d
  case measure=>simp[jC];omega
 have d:j=m:=Y;have h:fZ a j=a.flatten:=by rw[d,<-x];simp[fZ]
 rw[h]at b;have l:=O b;clear b d h
 go_wp2
 go_ret;exact⟨_,T,l,c⟩
section
variable{B f i:I}{d w:jc}{a xs:je jh}{b h:jh}{e t:jr}
structure cE(B:I)(e:jr)(sz:I)(w w':jc)(v a:jh)(n:I)(xs:je jh):Prop where
 own:w'.ownsRow B e sz a n xs
 grown:w.grownBy w' v.ownBlock
 lies:∀k,a.ownBlock=A k->v.ownBlock=A k\/w.heap.size<=k
theorem cE.trans{sz n n':I}{c:jc}{v f g:jh}{ys:je jh}(h:cE B e sz w c v f n xs)(k:cE B e sz c d f g n' ys):cE B e sz w d v g n' ys:=by
 refine⟨k.own,⟨k.grown.os.trans h.grown.os,k.grown.tape.trans h.grown.tape,k.grown.output.trans h.grown.output,qa h.grown.size k.grown.size,λj b i=>?_⟩,λj b=>?_⟩
 ·refine(k.grown.block j (qz b h.grown.size) (λe=>?_)).trans (h.grown.block j b i)
  rcases h.lies j e.symm with a|a
  ·exact i a.symm
  omega
 rcases k.lies j b with a|a
 ·exact h.lies j a
 exact .inr (qa h.grown.size a)
theorem cE.after{n:jc}(ys:jn w w d)(k:cE B e i d n b h f a):cE B e i w n b h f a:=by
 refine⟨k.own,⟨k.grown.os.trans ys.os,k.grown.tape.trans ys.tape,k.grown.output.trans ys.output,qa ys.size k.grown.size,λj v g=>?_⟩,λj v=>?_⟩
 ·exact(k.grown.block j (qz v ys.size) g).trans (ys.block j v)
 rcases k.lies j v with c|c
 ·exact .inl c
 exact .inr (qa ys.size c)
theorem cE.below{sz n:I}{w':jc}{v a:jh}{ys:je jh}{m:I}(h:cE B e sz w w' v a n xs)(b:w.ownsRow B e sz v m ys)(c:B<=w.heap.size):jn B w w':=
 ⟨h.grown.os,h.grown.tape,h.grown.output,h.grown.size,λk d=>h.grown.block k Y (λe=>by have:=(b.lt k e.symm).1;omega)⟩
theorem cE.old(v:cE B e i w d b h f a){g:I}{o:Obj}(xs:w.heap[g]?=A o)(c:b.ownBlock≠A g):d.heap[g]?=A o:=
 (v.grown.block g (jQ.1 xs).1 (λe=>c e.symm)).trans xs
theorem cE.ne(xs:cE B e i w d b h f a){g:I}(w':g<w.heap.size)(c:b.ownBlock≠A g):h.ownBlock≠A g:=λe=>by
 rcases xs.lies g e with v|v
 ·exact c v
 omega
theorem cE.drop(xs:cE B e i w d b h f a):cE B e i w d b h f a:=xs
theorem cE.refl{sz n:I}{v:jh}(h:w.ownsRow B e sz v n xs):cE B e sz w w v v n xs:=
 ⟨h,qX.refl _ _,λ_ h=>.inl h⟩
theorem eV(h:w.ownsRow B e i b f a){g:I}(xs:w.heap.size<=g\/g<B):b.ownBlock≠A g:=λe=>by
 have:=h.lt g e;omega
theorem cL(h:w.ownsRow B e i b f a)(c:jn w w d):d.ownsRow B e i b f a:=by
 refine⟨h.1,?_⟩
 rcases h.2 with xs|⟨g,w',n,sz,xs,v,j⟩
 ·exact .inl xs
 exact .inr ⟨g,w',n,sz,xs,(c.block g (jQ.1 v).1).trans v,j⟩
theorem cK(h:w.ownsRow B e i b f a):∃p c,b=jp p f c:=by
 rcases h.2 with⟨rfl,xs⟩|⟨g,v,d,rfl,-⟩
 ·exact⟨jd,0,by rw[xs]⟩
 exact⟨_,v,T⟩
section
variable {P:jI}
theorem oo(c:d.ownsRow B e i h f a)(w':w.grownBy d b.ownBlock)(n:h.ownBlock=b.ownBlock\/h.ownBlock=A w.heap.size):cE B e i w d b h f a:=by
 refine⟨c,w',λk v=>?_⟩
 rcases n with xs|xs
 ·exact .inl (xs▸v)
 rw[xs]at v;injection v with v
 exact .inr Y
theorem Li{w d:jc}{B:I}{a f:jr}{i:TypeInfo}(l:P.underlying e=A (.slice t))(m:P.underlying a=A .string)(o:P.info? t=A i)(q:i.zero=A (ja jF 0))
 (r:i.size=1) (u:i.bytes=1) {v h:jh} {n:I} {xs:je jh} (p:w.ownsRow B t 1 v n xs) {s:ByteArray} (H:n+s.size<=140737488355328)
 (b:(Builtin.append_ #[e,a] f #[v,qF s]).run P w=.ok h d) (z:h=jp jd 0 0↔v=jp jd 0 0/\s.size=0):h.ownBlock=v.ownBlock\/h.ownBlock=A w.heap.size:=by
 have base:xs.length=n:=ak p.1
 rcases p.2 with⟨rfl,rfl⟩|⟨g,k,x,rfl,K,C,M,Q,D,R⟩
 ·by_cases j:s.size=0
  ·rw[z.2 ⟨T,j⟩];exact .inl T
  have c:=run_append_nil_string (P:=P) w e a f t i (ja jF 0) l m o q s Y Y (by rw[u];omega);rw[c]at b;injection b with w' y
  rw[<-w'];exact .inr T
 by_cases E:n+s.size<=k
 ·have j:x.size=k:=ak D
  have c:=Lib.run_append_room_string (P:=P) w e a f t i l m o r g n k x C s E Y;rw[c]at b;injection b with w' y
  rw[<-w'];exact .inl T
 have F:∀j a,xs[j]?=A a->w.cell? ((⟨g,0,jd⟩:jP).add j)=A a:=p.cells (g:=g) T;have c:=Lib.run_append_grow_string (P:=P) w e a f t i (ja jF 0) l m o q ⟨g,0,jd⟩ n k xs (by rw[r];simpa using base) F s Y Y (by rw[u];exact growslice_fits Y Y);rw[c]at b;injection b with w' y
 rw[<-w'];exact .inr T
end
theorem lx(W:jc)(xs:je jh)(t:jr)(a:I×I)(sz n c:I)(b:xs.length=n*sz)(d:n<=c):cF (W.alloc (jj xs.toArray t a)) (jp (A ⟨W,0,jd⟩) n c) sz n xs:=by
 refine⟨b,A ⟨W,0,jd⟩,c,T,d,(λh=>by cases h),λ_=>⟨W.heap.size,0,T,λj g e=>?_⟩⟩;have f:=jO W (jj xs.toArray t a);unfold j4;simp only[f]
 simpa using e
theorem ao(W:jc)(o:Obj):jn W W (W.alloc o):=(jM _ W).alloc (jA _) _
structure pQ(g:I)(w w':jc):Prop where
 os:w'.os=w.os
 tape:w'.tape=w.tape
 output:w'.output=w.output
 size:w'.heap.size=w.heap.size
 block:∀k,k≠g->w'.heap[k]?=w.heap[k]?
theorem pQ.below{g:I}{w':jc}(h:pQ g w w')(a:B<=g):jn B w w':=
 ⟨h.os,h.tape,h.output,qL h.size.symm,λk b=>h.block k Y⟩
theorem yH{P:jI}{W:jc}{g:I}{a:jt jh}{v:jh}(b:W.heap[g]?=A (jj a t (0,0)))(d:i<a.size)(e:v.oneCell'=jf):
 ∃c,(store ⟨g,i,jd⟩ v).run P W=.ok () c/\c.heap[g]?=A (jj (a.setIfInBounds i v) t (0,0))/\pQ g W c:=by
 refine⟨W.setCell ⟨g,i,jd⟩ v,?_,heap_setCell_same W g i a t v b,⟨T,T,T,by simp[xg],λk f=>qd _ _ _ _ f⟩⟩;have h:W.cell? ⟨g,i,jd⟩=A a[i]:=by
  unfold j4;simp[b,d]
 rw[run_store _ _ _ v _ e,h];simp[frozen_of_row W g i a t b]
theorem ko{W:jc}{g:I}{a:jt jh}(v:jh)(b:W.heap[g]?=A (jj a t (0,0)))(c:i<a.size):
 (∃d,W.cell? ⟨g,i,jd⟩=A d)/\W.frozen? ⟨g,i,jd⟩=jz/\(W.setCell ⟨g,i,jd⟩ v).heap[g]?=A (jj (a.setIfInBounds i v) t (0,0))/\pQ g W (W.setCell ⟨g,i,jd⟩ v):=by
 refine⟨⟨a[i],?_⟩,frozen_of_row W g i a t b,heap_setCell_same W g i a t v b,⟨T,T,T,by simp[xg],λk d=>qd _ _ _ _ d⟩⟩;unfold j4;simp[b,c]
theorem ah{W:jc}{g:I}{a:jt jh}{b:I×I}{v:jh}(c:W.heap[g]?=A (jj a t b))(d:a[i]?=A v):W.cell? ⟨g,i,jd⟩=A v:=by
 unfold j4;simp[c,d]
theorem Ka(s:ByteArray):Lib.strCells s=(s.data.toList.map UInt8.toBitVec).map v8:=by
 unfold Lib.strCells;rw[List.map_map]
 rfl
theorem gS(l:LBy):∀a∈l.map v8,a.oneCell'=jf:=by
 intro a b;obtain⟨x,-,rfl⟩:=qb.1 b
 rfl
theorem bD.row{v:jh}{l:LBy}(h:bD w v l):cF w v 1 l.length (l.map v8):=by
 obtain⟨p,c,rfl,b,d,f⟩:=h;refine⟨by simp,p,c,T,b,d,λi=>?_⟩;obtain⟨g,o,e,k⟩:=f i;refine⟨g,o,e,λj n a=>?_⟩;rw[xk]at a
 cases hx:l[j]? with
 |none=>rw[hx]at a;cases a
 |some x=>
  rw[hx]at a;injection a with a
  have m:=(ow.1 hx).1;rw[k j m,<-a];simp[jU,hx]
theorem Dp:(ji.info? 5).map (λi=>(i.zero,i.size,i.bytes))=A (A (ja jF 0),1,1):=by kernel_rfl
theorem oK{w:jc}{o:jy}{a:Act}{K:Act->jc->Prop}{d:jT->Act->jc->Prop}(s x:ms)
 (e:o.op=.call {callee:=.builtin .append,args:=#[s,x],argTypes:=#[30,30]})
 (B:I) (v:jh) (n:I) (xs:je jh) (f:a.eval s=v) (g:w.ownsRow B 5 1 v n xs) (b:jh) (m:I) (ys:je jh) (i:a.eval x=b) (j:cF w b 1 m ys) (k:∀b∈ys,b.oneCell'=jf)
 (D:n+m<=4000000) (l:B<=w.heap.size) (h:∀c w',cE B 5 1 w w' v c (n+m) (xs++ys)->K (a.put o.dst c) w'):o.wp ji a w K d:=by
 obtain⟨p,q,r,t,u⟩:=qc Dp;exact nP s x 30 e B 5 p (ja jF 0) 1 1 jR q r t u T G v n xs f g b m ys i j k (by unfold jY;omega) Y l
  λc w' y z C=>h c w' (oo y z C)
theorem M6{w:jc}{o:jy}{a:Act}{K:Act->jc->Prop}{l:jT->Act->jc->Prop}(s x:ms)
 (m:o.op=.call {callee:=.builtin .append,args:=#[s,x],argTypes:=#[30,9]})
 (B:I) (v:jh) (n:I) (xs:je jh) (p:a.eval s=v) (d:w.ownsRow B 5 1 v n xs) (b:ByteArray) (q:a.eval x=qF b)
 (C:n+b.size<=4000000) (r:B<=w.heap.size) (h:∀c w',cE B 5 1 w w' v c (n+b.size) (xs++(b.data.toList.map UInt8.toBitVec).map v8)->K (a.put o.dst c) w'):o.wp ji a w K l:=by
 obtain⟨t,e,f,g,i⟩:=qc Dp;obtain⟨c,w',j,k,u,y⟩:=Lib.run_append_own_string (P:=ji) w B 30 9 o.type 5 t jR qA e f g i v n xs d b (by unfold jY;omega) Y r;have z:=Li jR qA e f g i d Y j y;rw[Ka]at k;unfold Oper.wp jV;simp only[m,resolve,invoke,builtin,Sem.run_bind,Sem.run_pure,Result.andThen_ok,wq,wt,wv,p,q,j];exact h c w' (oo k u z)
theorem bj(h:jm (w.ownsRow B e i b f a))(xs:jn w w d):jm (d.ownsRow B e i b f a):=O (cL h xs)
end
theorem QH(x:jl 32)(w:jc):
 ju ji 234 #[ja jq x.toNat,ja jg 6,ja jg 11,ja jg 25] w λe w'=>
  e=js (ja jq (x.rotateRight 6^^^x.rotateRight 11^^^x.rotateRight 25).toNat)/\w=w':=by
 obtain⟨a,d⟩:=J (x.rotateRight 6);obtain⟨b,f⟩:=J (x.rotateRight 11);obtain⟨c,g⟩:=J (x.rotateRight 25);have h:=Qq x;have i:=P1 x;have j:=Td x;rw[<-d]at h⊢;rw[<-f]at i⊢;rw[<-g]at j⊢;clear d f g
 go_enter func234,ntmps234
 go_wp2_with fail
 refine(h _).mono ?_;rintro e w' ⟨rfl,rfl⟩
 go_wp2_with fail
 refine(i _).mono ?_;rintro e w' ⟨rfl,rfl⟩
 go_wp2_with fail
 refine(j _).mono ?_;rintro e w' ⟨rfl,rfl⟩
 go_wp2
 go_ret;exact⟨fN (by rw[iH,iH]),T⟩
theorem Ra(x:jl 32)(w:jc):
 ju ji 234 #[ja jq x.toNat,ja jg 2,ja jg 13,ja jg 22] w λe w'=>
  e=js (ja jq (x.rotateRight 2^^^x.rotateRight 13^^^x.rotateRight 22).toNat)/\w=w':=by
 obtain⟨a,d⟩:=J (x.rotateRight 2);obtain⟨b,f⟩:=J (x.rotateRight 13);obtain⟨c,g⟩:=J (x.rotateRight 22);have h:=Je x;have i:=Kq x;have j:=ME x;rw[<-d]at h⊢;rw[<-f]at i⊢;rw[<-g]at j⊢;clear d f g
 go_enter func234,ntmps234
 go_wp2_with fail
 refine(h _).mono ?_;rintro e w' ⟨rfl,rfl⟩
 go_wp2_with fail
 refine(i _).mono ?_;rintro e w' ⟨rfl,rfl⟩
 go_wp2_with fail
 refine(j _).mono ?_;rintro e w' ⟨rfl,rfl⟩
 go_wp2
 go_ret;exact⟨fN (by rw[iH,iH]),T⟩
def oO(l:LBy):I->jl 32
 |0=>0
 |j+1=>oO l j<<<8|||(l.getD j 0).setWidth 32
theorem R4(a:jl 32)(y:jl 8):bits .or .u32 ((a.toNat:N)*256%4294967296) (y.toNat:N)=((a<<<8|||y.setWidth 32).toNat:N):=by
 have b:((a.toNat:N)*(256:N)%(4294967296:N))=((a<<<8).toNat:N):=by
  rw[xe,qY];simp
 rw[b,Ew y,bor]
theorem TC(g o c n:I)(i:4<=c)(l:LBy)(w:jc)(a:∀j,j<4->w.cell? ⟨g,o+j,jd⟩=A (ja jF (l.getD j 0).toNat)):
 ju ji 232 #[jp (A ⟨g,o,jd⟩) n c] w λe w'=>e=js (ja jq (oO l 4).toNat)/\w=w':=by
 replace a:=O a;have k:(4:N)<=(c:N):=Y;have p:c≠0:=Y;have q:(0==c)=jz:=by simp;omega
 go_enter func232,ntmps232
 go_wp2_with fail
 go_loopw [2,8] (λm t wr=>∃j:I,t=ja jg j/\j<=4/\m=ja jq (oO l j).toNat/\wr=w) (λ_ t _=>(4-jC t).toNat)
 case atStart=>exact⟨0,T,by omega,rfl,rfl⟩
 obtain⟨j,rfl,m,rfl,rfl⟩:=hrel
 by_cases d:j<4
 ·have f:=a j d
  have b:oO l (j+1)=oO l j<<<8|||(l.getD j 0).setWidth 32:=T;generalize l.getD j 0=y at f b;have h:=O b;clear b
  go_wp2
  refine⟨⟨j+1,by go_num,by omega,?_,trivial⟩,by simp[jC];omega⟩;rw[R4,h]
 go_wp2
 go_ret;have:j=4:=Y;subst this;exact⟨T,T⟩
theorem cI.frozen(h:cI w B t d)(i:I):w.frozen? ⟨B,i,jd⟩=jz:=by
 simp[xL,show w.heap[B]?=_ from h]
theorem cI.lt(h:cI w B t d):B<w.heap.size:=(jQ.1 h).1
theorem cI.set{g:I}{v:LBy}(h:cI W g t v)(i:I)(x:jl 8):
 cI (W.setCell ⟨g,i,jd⟩ (ja jF x.toNat)) g t (v.set i x):=by
 have a:=h.lt;have b:W.heap[g]=_:=(jQ.1 h).2;show(W.heap.modify g _)[g]?=_;rw[xf];simp[a,b,List.map_set]
def kJ(a:LBy)(o n:I)(x:jl 64):I->LBy
 |0=>a
 |j+1=>(kJ a o n x j).set (o+(n-1-j)) ((x>>>(8*j)).setWidth 8)
theorem Ay(cur o n x j):(kJ cur o n x j).length=cur.length:=by induction j with
 |zero=>rfl
 |succ j a=>simp[kJ,a]
theorem Tw(x:jl 64)(j:I):(x.toNat:N)/2^(8*j)%256=(((x>>>(8*j)).setWidth 8).toNat:N):=by
 rw[qN,xa,xd];simp
theorem Da(g o c n:I)(t:jr)(k:n<=8)(b:LBy)(x:jl 64)(w:jc)(h:cI w g t b)(l:o+n<=b.length)(m:n<=c):
 ju ji 189 #[jp (A ⟨g,o,jd⟩) n c,ja jk x.toNat] w λe w'=>e=js (jL #[])/\bQ g w w'/\cI w' g t (kJ b o n x n):=by
 replace h:=O h
 go_enter func189,ntmps189
 go_wp2_with fail
 go_loopw [7] (λa wr=>∃j:I,a=ja jg j/\j<=n/\jm (cI wr g t (kJ b o n x j))/\jm (bQ g w wr)) (λa _=>(n-jC a).toNat)
 case atStart=>exact⟨0,T,by omega,h,bQ.refl _ _⟩
 obtain⟨j,rfl,p,a,d⟩:=hrel
 by_cases q:j<n
 ·have f:=a.cell (i:=o+(n-1-j)) (by rw[Ay];omega)
  have r:=a.frozen (o+(n-1-j))
  go_wp2
  go_roundw
  case rel=>
   refine⟨j+1,by go_num,by omega,?_,d.trans (bQ.setCell _ _ _ _)⟩;rw[Tw];exact a.set _ _
  case measure=>simp[jC];omega
 have f:j=n:=Y;rw[f]at a
 go_wp2
 go_end0
 exact⟨T,d,a⟩
theorem JN:(ji.info? 5).map (λi=>(i.zero,i.size,i.bytes))=A (A (ja jF 0),1,1):=by kernel_rfl
def ip(n:I):I->LBy
 |0=>[]
 |j+1=>ip n j++[nn 8 (n/2^(56-8*j))]
theorem De(n j):(ip n j).length=j:=by induction j with
 |zero=>rfl
 |succ j a=>simp[ip,a]
theorem Rh(n k:I):(n:N)/2^(56-8*k)%256=((nn 8 (n/2^(56-8*k))).toNat:N):=by
 rw[wx];simp
theorem MV(n k:I):(ip n (k+1)).map v8=(ip n k).map v8++[ja jF ((n:N)/2^(56-8*k)%256)]:=by
 rw[Rh,ip,xO];rfl
theorem Ko(n:I)(m:n<9223372036854775808)(w:jc):
 ju ji 209 #[ja jg n] w λe w'=>∃v,e=js v/\w'.ownsRow w 5 1 v 8 ((ip n 8).map v8)/\jn w w w':=by
 obtain⟨c,d,f,g,h⟩:=qc JN
 go_enter func209,ntmps209
 go_wp2_with fail
 go_loopw [2,4] (λl t wr=>∃k:I,t=ja jg k/\k<=8/\wr.ownsRow w 5 1 l k ((ip n k).map v8)/\jn w w wr) (λ_ t _=>(8-jC t).toNat)
 case atStart=>exact⟨0,T,by omega,xi _ _ _ _,jM _ _⟩
 obtain⟨k,rfl,o,b,a⟩:=hrel
 by_cases p:k<8
 ·have i:=a.size
  replace a:=O a
  go_wp2_with (at_builtin;refine r5 _ T _ _ 30 T w.heap.size 5 c (ja jF 0) 1 1 jR d f g h T G _ _ _ T (b.alloc _) ⟨wr,0,jd⟩ 1 1 [ja jF ((n:N)/2^(56-8*k)%256)] T T (cell_one_new _ _ _) (by simp[q7]) (by unfold jY;omega) Y (by simp;omega) ?_;intro q r j l _)
  go_roundw
  case rel=>
   refine⟨k+1,by go_num,by omega,?_,?_⟩
   ·rw[MV];exact j
   exact(a.alloc i _).grown l (by simp;omega) (λk e=>(b.lt k e).1)
  case measure=>simp[jC];omega
 have i:k=8:=Y;rw[i]at b;have j:=O b;replace a:=O a;clear b
 go_wp2
 go_ret;exact⟨_,T,j,a⟩
section
section
variable {P:jI} {ops:jt jy} {md:Region.Mode} {C:jc->Prop}
def tA(P:jI)(md:Region.Mode)(ops:jt jy)(C:jc->Prop)(n:I)(c:jt jw->Act->Prop):I->jt jw->Act->Prop
 |0,b,a=>c b a
 |f+1,b,a=>Region.ready md ops b≠[]/\∀i∈Region.ready md ops b,i<n/\qOp P ops C i (tA P md ops C n c f (b.setIfInBounds i jf)) a
theorem QI{n g:I}{d:jt jw->Act->Prop}{Q':jT->Act->jc->Prop}(e:∀b a w,C w->d b a->wpAny P md ops Q' g b a w):
 ∀(f:I) (b:jt jw) (a:Act) (w:jc),C w->tA P md ops C n d f b a->wpAny P md ops Q' (f+g) b a w:=by
 intro f
 induction f with
 |zero=>
  intro b a w c h;rw[mb];exact e _ _ _ c h
 |succ f j=>
  intro b a w c h;rw[Nat.add_right_comm f 1 g];refine⟨λk=>qj k h.1,λi l=>?_⟩;exact wpOp_of_qOp c (λm w' o p=>j _ m w' o p) (h.2 i l).2
theorem Tx{n i:I}{p:jy}{v:jh}{u:jt jw->Act->Prop}(w:ops[i]?=A p)(y:∀(j:I) (o:jy) k b,ops[j]?=A o->o.op≠.select k b)
 (z:Region.sinkB md ops n=jf) (B:Region.chainB md ops n=jf) (D:n<ops.size) (E:i<n) (R:∀c a,u c a->∀j∈Region.ready md ops c,n<=j):
 ∀(f:I) (c:jt jw) (a:Act),HeadInv md ops n c->
  (∀j l,ops[j]?=A l->j≠i->c.getD j jf=jz->(∀e∈l.after,Region.binds md e=jf->e.on≠i)->p.apart ops l=jf)->
  i∈Region.ready md ops c->YieldsIn P ops C p v a->
  tA P md ops C n u f (c.setIfInBounds i jf) (a.put p.dst v)->tA P md ops C n u (f+1) c a:=by
 intro f
 induction f with
 |zero=>
  intro c a r _ g s H;have t:=(mem_ready.1 g).1;have o:∀j∈Region.ready md ops c,j<n:=λj d=>by
   rcases qH j n with h|h
   ·exact h
   exact qj d (tail_waits z B D r _ i T E t j h)
  refine⟨λh=>(by rw[h]at g;cases g),λj d=>⟨o j d,?_⟩⟩
  rcases Decidable.em (j=i)with rfl|m
  ·exact s.qOp w H
  have F:=R _ _ H j (ready_mono d m);have K:=o j d;omega
 |succ f S=>
  intro c a r M g s H;have t:=(mem_ready.1 g).1;have o:∀j∈Region.ready md ops c,j<n:=λj d=>by
   rcases qH j n with h|h
   ·exact h
   exact qj d (tail_waits z B D r _ i T E t j h)
  refine⟨λh=>(by rw[h]at g;cases g),λj d=>⟨o j d,?_⟩⟩
  rcases Decidable.em (j=i)with rfl|m
  ·exact s.qOp w H
  have F:=(H.2 j (ready_mono d m)).2;obtain⟨Q,l,x,U⟩:=mem_ready.1 d;have V:∀e∈l.after,Region.binds md e=jf->e.on≠i:=λe he W X=>by
   have q:=U e he W;rw[X,getD_both t]at q
   cases q
  have K:=qOp_put x (M j l x m Q V) (λk b=>y i p k b w) (λk b=>y j l k b x) s F;refine qOp_mono (λb q=>S (c.setIfInBounds j jf) b (r.set d (o j d)) (λk ok hk Vy aa ac=>M k ok hk Vy ?_ ac) (ready_mono g (Ne.symm m)) q.1 ?_) K
  ·rcases Decidable.em (j=k)with rfl|b
   ·exact Q
   rwa [getD_set_ne jf b]at aa
  rw[xz _ _ m];exact q.2
theorem Ql{n g:I}{f:Act->Prop}(t:Region.noSelect ops=jf)(u:Region.sinkB md ops n=jf)(w:Region.chainB md ops n=jf)(x:n<ops.size):
 ∀(l:je jy) (k:I) (b:jt jw) (a:Act),(∀j,j<l.length->l[j]?=ops[k+j]?)->k+l.length=n->HeadInv md ops n b->
 Region.lexHead md ops g l.length k b=jf->wpQuiet P ops C f l a->
 tA P md ops C n (λi m=>Region.seqB md ops g n i=jf/\f m) l.length b a:=by
 intro l
 induction l with
 |nil=>
  intro k b a _ c _ d h;obtain rfl:k=n:=ak c;exact⟨by simpa [Region.lexHead]using d,h⟩
 |cons o l y=>
  intro k b a p c q d h;have e:ops[k]?=A o:=by simpa using(p 0 ar).symm
  simp only[oj,Region.lexHead,jZ]at d;obtain⟨⟨z,B⟩,D⟩:=d;have r:k<n:=by simp only[oj]at c;omega
  have s:k∈Region.ready md ops b:=ak z;have E:qOp P ops C k (wpQuiet P ops C f l) a:=by unfold qOp;simp only[e];exact h
  obtain⟨v,F,H⟩:=yieldsIn_of_qOp e E;refine Tx e (Region.noSelect_spec t) u w x r (λi m K=>seqB_ready K.1) l.length b a q (Region.free_spec e B) s F ?_;exact y (k+1) _ _ (λj i=>by have:=p (j+1) (by simp;omega);simpa [q8,Nat.add_comm 1 j]using this) (by simp only[oj]at c;omega) (q.set s r) D H
theorem Tq{o:I}{b:jT->Act->jc->Prop}{a:Act}{w:jc}{l:je jy}(n:I)(p:P.follows .mixedOrders=jf)(e:Region.lexTailB .any l.toArray n=jf)
 (h:wpQuiet P l.toArray (λw'=>∃m,w'=w.drewN m) (λd=>∀w',(∃m,w'=w.drewN m)->n0 P l.toArray b (l.drop n) d w') (l.take n) a):(Code.region o l.toArray jf).wp P b a w:=by
 simp only[Region.lexTailB,jZ,decide_eq_true_eq]at e;obtain⟨⟨⟨⟨q,f⟩,r⟩,s⟩,u⟩:=e;have z:n<l.length:=ak f;have c:(l.take n).length=n:=by simp;omega
 have i:(l.drop n).length=l.toArray.size-n:=by simp
 have v:HeadInv .any l.toArray n (qf l.toArray.size jz):=
  ⟨by simp,λj y _ k=>(by rw[getD_replicate_false]at k;cases k),λt _ x=>getD_in (ak x) (getD_replicate_false _ _)⟩
 have H:=Ql (md:=.any) (g:=l.toArray.size-n) q r s f (l.take n) 0 _ a (λj k=>by
  have t:j<n:=by rw[c]at k;exact k
  simp[t]) (ak c) v (by rw[c];exact u) h
 refine wp_region_any p ?_;have t:∃m,({w with drawn:=w.drawn+1}:jc)=w.drewN m:=⟨1,T⟩;have:=QI (Q':=b) (g:=l.toArray.size-n) (λx d w' y k=>by
  have:=wpAny_of_seq (md:=.any) (Q':=b) (l.drop n) n x d w' (λj=>by simp[List.getElem?_drop]) (by rw[i];exact k.1) (k.2 w' y)
  rwa [i]at this) _ _ _ _ t H
 rw[c,show n+(l.toArray.size-n)=l.toArray.size by omega]at this;exact this
end
end
def pj(b:LBy):I->je (jl 32)
 |0=>mz 64 0
 |t+1=>(pj b t).set t (oO (b.drop (4*t)) 4)
theorem B8(b t):(pj b t).length=64:=by induction t with
 |zero=>simp[pj]
 |succ t a=>simp[pj,a]
def iI(x:jl 32)(k:N):jl 32:=x.rotateRight (-k).toNat
def By(W:je (jl 32))(t:I):jl 32:=
 W.getD (t-16) 0+(iI (W.getD (t-15) 0) (-7)^^^iI (W.getD (t-15) 0) (-18)^^^(W.getD (t-15) 0)>>>3)+W.getD (t-7) 0+
  (iI (W.getD (t-2) 0) (-17)^^^iI (W.getD (t-2) 0) (-19)^^^(W.getD (t-2) 0)>>>10)
theorem P9(W:je (jl 32))(t:I):By W t=W.getD (t-16) 0+(iI (W.getD (t-15) 0) (-7)^^^iI (W.getD (t-15) 0) (-18)^^^(W.getD (t-15) 0)>>>3)+W.getD (t-7) 0+
 (iI (W.getD (t-2) 0) (-17)^^^iI (W.getD (t-2) 0) (-19)^^^(W.getD (t-2) 0)>>>10):=T
theorem IM(x:jl 32)(k:N)(a:k= -7\/k= -18\/k= -17\/k= -19)(w:jc):
 ju ji 233 #[ja jq x.toNat,ja jg k] w λe w'=>e=js (ja jq (iI x k).toNat)/\w'=w:=by
 rcases a with rfl|rfl|rfl|rfl
 ·exact(Qn x w).mono λe w' h=>⟨h.1,h.2.symm⟩
 ·exact(OK x w).mono λe w' h=>⟨h.1,h.2.symm⟩
 ·exact(PH x w).mono λe w' h=>⟨h.1,h.2.symm⟩
 exact(Qi x w).mono λe w' h=>⟨h.1,h.2.symm⟩
theorem FU(a b c d:jl 32):((a.toNat:N)+(b.toNat:N)+(c.toNat:N)+(d.toNat:N))%4294967296=((a+b+c+d).toNat:N):=by
 simp only[xJ];omega
def wY(x:jl 32):jl 32:=x.rotateRight 6^^^x.rotateRight 11^^^x.rotateRight 25
def zN(x:jl 32):jl 32:=x.rotateRight 2^^^x.rotateRight 13^^^x.rotateRight 22
theorem PC(x:jl 32)(w:jc):
 ju ji 234 #[ja jq x.toNat,ja jg 6,ja jg 11,ja jg 25] w λe w'=>e=js (ja jq (wY x).toNat)/\w'=w:=
 (QH x w).mono λe w' h=>⟨h.1,h.2.symm⟩
theorem Pk(x:jl 32)(w:jc):
 ju ji 234 #[ja jq x.toNat,ja jg 2,ja jg 13,ja jg 22] w λe w'=>e=js (ja jq (zN x).toNat)/\w'=w:=
 (Ra x w).mono λe w' h=>⟨h.1,h.2.symm⟩
def fz(b:LBy):I->je (jl 32)
 |0=>pj b 16
 |t+1=>(fz b t).set (16+t) (By (fz b t) (16+t))
theorem rj(b t):(fz b t).length=64:=by induction t with
 |zero=>exact B8 b 16
 |succ t a=>simp[fz,a]
theorem yg(t e:jr)(a:P.underlying t=A (.slice e))(b:∀w,(sizeOf e).run P w=.ok 1 w)(g o n c l:I)(d:l<=n)(f:l<c)(W:jc):
 (Instr.sliceAt t (jp (A ⟨g,o,jd⟩) n c) (A (ja jg (l:N))) jd jd).run P W=.ok (jp (A ⟨g,o+l,jd⟩) (n-l) (c-l)) W:=by
 have he:P.elem t=e:=by simp[Program.elem,a]
 rw[xu W t _ _ _ _ (by rw[he];exact a),run_slice_l W t _ n c (by rw[he];exact a) .i64 _ Y Y,he];simp[b,Result.andThen,sliced,Addr.add];rw[j5 Y]
 split<;>simp[*]
def lY:je (jl 32):=[
 1116352408,1899447441,3049323471,3921009573,961987163,1508970993,2453635748,2870763221,
 3624381080,310598401,607225278,1426881987,1925078388,2162078206,2614888103,3248222580,
 3835390401,4022224774,264347078,604807628,770255983,1249150122,1555081692,1996064986,
 2554220882,2821834349,2952996808,3210313671,3336571891,3584528711,113926993,338241895,
 666307205,773529912,1294757372,1396182291,1695183700,1986661051,2177026350,2456956037,
 2730485921,2820302411,3259730800,3345764771,3516065817,3600352804,4094571909,275423344,
 430227734,506948616,659060556,883997877,958139571,1322822218,1537002063,1747873779,
 1955562222,2024104815,2227730452,2361852424,2428436474,2756734187,3204031479,3329325298]
def eM(w:jc):Prop:=Lib.TabIs ji w "chartroom/digest.numbers" .u32 (lY.map λx=>(x.toNat:N))
theorem Qp:ji.globalNamed "chartroom/digest.numbers" =A 3:=by kernel_rfl
theorem eM.cell(h:eM w)(t:I)(a:t<64):w.cell? ⟨3,t,jd⟩=A (ja jq (lY.getD t 0).toNat):=by
 have:=Lib.TabIs.cell h Qp t (by simpa [lY]using a);rw[this];have b:t<lY.length:=a;simp[b,jU]
def pR(v:je (jl 32))(k x:jl 32):jl 32:=
 v.getD 7 0+wY (v.getD 4 0)+(v.getD 6 0^^^(v.getD 4 0&&&(v.getD 5 0^^^v.getD 6 0)))+k+x
def qR(v:je (jl 32)):jl 32:=
 zN (v.getD 0 0)+((v.getD 0 0&&&v.getD 1 0)|||(v.getD 2 0&&&(v.getD 0 0|||v.getD 1 0)))
theorem Rs(v:je (jl 32))(k x:jl 32):pR v k x=v.getD 7 0+wY (v.getD 4 0)+(v.getD 6 0^^^(v.getD 4 0&&&(v.getD 5 0^^^v.getD 6 0)))+k+x:=T
theorem Qt(v:je (jl 32)):qR v=zN (v.getD 0 0)+((v.getD 0 0&&&v.getD 1 0)|||(v.getD 2 0&&&(v.getD 0 0|||v.getD 1 0))):=T
def shR(v:je (jl 32)):je (jl 32):=splice v 1 (v.take 7)
def sd(v:je (jl 32))(k x:jl 32):je (jl 32):=
 ((shR v).set 4 ((shR v).getD 4 0+pR v k x)).set 0 (pR v k x+qR v)
theorem ID(v)(h:v.length=8):(shR v).length=8:=by simp[shR,splice,h]
theorem Ps(v k x)(h:v.length=8):(sd v k x).length=8:=by simp[sd,ID v h]
def kF(s W:je (jl 32)):I->je (jl 32)
 |0=>s
 |t+1=>sd (kF s W t) (lY.getD t 0) (W.getD t 0)
theorem Gu(s W t)(h:s.length=8):(kF s W t).length=8:=by induction t with
 |zero=>exact h
 |succ t a=>exact Ps _ _ _ a
def kp(s v:je (jl 32)):I->je (jl 32)
 |0=>s
 |i+1=>(kp s v i).set i ((kp s v i).getD i 0+v.getD i 0)
theorem Ei(s v i):(kp s v i).length=s.length:=by induction i with
 |zero=>rfl
 |succ i a=>simp[kp,a]
def oY(s:je (jl 32))(b:LBy):je (jl 32):=kp s (kF s (fz b 48) 64) 8
theorem Kz(s b)(h:s.length=8):(oY s b).length=8:=by rw[oY,Ei,h]
theorem Ep(g o j:I):(⟨g,o,jd⟩:jP).add j=⟨g,o+j,jd⟩:=by unfold Addr.add;split<;>simp_all
theorem Qs(l:je (jl 32)):∀a∈l.map cB,a.oneCell'=jf:=by
 intro a b;obtain⟨x,_,rfl⟩:=qb.1 b
 rfl
theorem RE(g gb o n c:I)(s:je (jl 32))(b:LBy)(hs:s.length=8)(hb:b.length=64)(hn:64<=n)(hc:n<=c)(w:jc)
 (a:aT w g 289 s) (d:∀j,j<64->w.cell? ⟨gb,o+j,jd⟩=A (ja jF (b.getD j 0).toNat)) (f:eM w):
 ju ji 188 #[jG (A ⟨g,0,jd⟩),jp (A ⟨gb,o,jd⟩) n c] w λe w'=>
  e=js (jL #[])/\aT w' g 289 (oY s b)/\(∀k,k<w.heap.size->k≠g->w'.heap[k]?=w.heap[k]?)/\jn 0 w w':=by
 have bo:gb<w.heap.size:=lX (d 0 Y);have bp:g<w.heap.size:=a.lt;have bq:3<w.heap.size:=lX (f.cell 0 G);have HT:jm (∀t,t<64->w.cell? ⟨3,t,jd⟩=A (ja jq (lY.getD t 0).toNat)):=O λt ht=>f.cell t ht
 have HG:=O a;have HC:=O d;clear a d f
 go_enter func188,ntmps188
 go_upto_region 1 with fail
 have a:aT (w.alloc (jj #[jb .u32 0,jb .u32 0,jb .u32 0,jb .u32 0,jb .u32 0,jb .u32 0,jb .u32 0,jb .u32 0,jb .u32 0,jb .u32 0,jb .u32 0,jb .u32 0,jb .u32 0,jb .u32 0,jb .u32 0,jb .u32 0,jb .u32 0,jb .u32 0,jb .u32 0,jb .u32 0,jb .u32 0,jb .u32 0,jb .u32 0,jb .u32 0,jb .u32 0,jb .u32 0,jb .u32 0,jb .u32 0,jb .u32 0,jb .u32 0,jb .u32 0,jb .u32 0,jb .u32 0,jb .u32 0,jb .u32 0,jb .u32 0,jb .u32 0,jb .u32 0,jb .u32 0,jb .u32 0,jb .u32 0,jb .u32 0,jb .u32 0,jb .u32 0,jb .u32 0,jb .u32 0,jb .u32 0,jb .u32 0,jb .u32 0,jb .u32 0,jb .u32 0,jb .u32 0,jb .u32 0,jb .u32 0,jb .u32 0,jb .u32 0,jb .u32 0,jb .u32 0,jb .u32 0,jb .u32 0,jb .u32 0,jb .u32 0,jb .u32 0,jb .u32 0] 330)) w.heap.size 330 (pj b 0):=by
  have:=jO w (jj #[jb .u32 0,jb .u32 0,jb .u32 0,jb .u32 0,jb .u32 0,jb .u32 0,jb .u32 0,jb .u32 0,jb .u32 0,jb .u32 0,jb .u32 0,jb .u32 0,jb .u32 0,jb .u32 0,jb .u32 0,jb .u32 0,jb .u32 0,jb .u32 0,jb .u32 0,jb .u32 0,jb .u32 0,jb .u32 0,jb .u32 0,jb .u32 0,jb .u32 0,jb .u32 0,jb .u32 0,jb .u32 0,jb .u32 0,jb .u32 0,jb .u32 0,jb .u32 0,jb .u32 0,jb .u32 0,jb .u32 0,jb .u32 0,jb .u32 0,jb .u32 0,jb .u32 0,jb .u32 0,jb .u32 0,jb .u32 0,jb .u32 0,jb .u32 0,jb .u32 0,jb .u32 0,jb .u32 0,jb .u32 0,jb .u32 0,jb .u32 0,jb .u32 0,jb .u32 0,jb .u32 0,jb .u32 0,jb .u32 0,jb .u32 0,jb .u32 0,jb .u32 0,jb .u32 0,jb .u32 0,jb .u32 0,jb .u32 0,jb .u32 0,jb .u32 0] 330);exact this
 have d:jn w w (w.alloc (jj #[jb .u32 0,jb .u32 0,jb .u32 0,jb .u32 0,jb .u32 0,jb .u32 0,jb .u32 0,jb .u32 0,jb .u32 0,jb .u32 0,jb .u32 0,jb .u32 0,jb .u32 0,jb .u32 0,jb .u32 0,jb .u32 0,jb .u32 0,jb .u32 0,jb .u32 0,jb .u32 0,jb .u32 0,jb .u32 0,jb .u32 0,jb .u32 0,jb .u32 0,jb .u32 0,jb .u32 0,jb .u32 0,jb .u32 0,jb .u32 0,jb .u32 0,jb .u32 0,jb .u32 0,jb .u32 0,jb .u32 0,jb .u32 0,jb .u32 0,jb .u32 0,jb .u32 0,jb .u32 0,jb .u32 0,jb .u32 0,jb .u32 0,jb .u32 0,jb .u32 0,jb .u32 0,jb .u32 0,jb .u32 0,jb .u32 0,jb .u32 0,jb .u32 0,jb .u32 0,jb .u32 0,jb .u32 0,jb .u32 0,jb .u32 0,jb .u32 0,jb .u32 0,jb .u32 0,jb .u32 0,jb .u32 0,jb .u32 0,jb .u32 0,jb .u32 0] 330)):=⟨T,T,T,by simp,λk hk=>jH _ _ _ hk⟩;obtain⟨S,f⟩:=J (w.alloc (jj #[jb .u32 0,jb .u32 0,jb .u32 0,jb .u32 0,jb .u32 0,jb .u32 0,jb .u32 0,jb .u32 0,jb .u32 0,jb .u32 0,jb .u32 0,jb .u32 0,jb .u32 0,jb .u32 0,jb .u32 0,jb .u32 0,jb .u32 0,jb .u32 0,jb .u32 0,jb .u32 0,jb .u32 0,jb .u32 0,jb .u32 0,jb .u32 0,jb .u32 0,jb .u32 0,jb .u32 0,jb .u32 0,jb .u32 0,jb .u32 0,jb .u32 0,jb .u32 0,jb .u32 0,jb .u32 0,jb .u32 0,jb .u32 0,jb .u32 0,jb .u32 0,jb .u32 0,jb .u32 0,jb .u32 0,jb .u32 0,jb .u32 0,jb .u32 0,jb .u32 0,jb .u32 0,jb .u32 0,jb .u32 0,jb .u32 0,jb .u32 0,jb .u32 0,jb .u32 0,jb .u32 0,jb .u32 0,jb .u32 0,jb .u32 0,jb .u32 0,jb .u32 0,jb .u32 0,jb .u32 0,jb .u32 0,jb .u32 0,jb .u32 0,jb .u32 0] 330));rw[<-f]at a d⊢;have h:S.heap.size=w.heap.size+1:=by rw[f];simp
 have br:=O h;have HA:=O a;have HB:=O d;clear a d f h
 go_wp2_with fail
 go_loopw [14] (λa wr=>∃t:I,a=ja jg t/\t<=16/\jm (aT wr w.heap.size 330 (pj b t))/\jm (bQ w.heap.size S wr)) (λa _=>(16-jC a).toNat)
 case atStart=>exact⟨0,T,by omega,HA,bQ.refl _ _⟩
 obtain⟨t,rfl,ht,d,au⟩:=hrel
 by_cases bB:t<16
 ·have f:∀j,j<4->wr.cell? ⟨gb,(o+4*t)+j,jd⟩=A (ja jF ((b.drop (4*t)).getD j 0).toNat):=λj U=>by
   have h1:=HC (4*t+j) Y;have h2:(b.drop (4*t)).getD j 0=b.getD (4*t+j) 0:=by simp[jU]
   rw[h2,q8];exact gg h1 ((au.block _ (by show gb≠_;omega)).trans (HB.block _ bo))
  have h:=O f;have F:=d.frozen t;have C:=d.cell (i:=t) (by rw[B8];omega);have l:∀W,(Instr.sliceAt 30 (jp (A ⟨gb,o,jd⟩) n c) (A (ja jg (4*(t:N)))) jd jd).run ji W=.ok (jp (A ⟨gb,o+4*t,jd⟩) (n-4*t) (c-4*t)) W:=λW=>by
   have:=yg (P:=ji) 30 5 jR iK gb o n c (4*t) Y Y W
   simpa using this
  clear f
  go_wp2_with fail
  refine(TC gb (o+4*t) (c-4*t) (n-4*t) Y (b.drop (4*t)) _ h.out).mono ?_;rintro e w' ⟨rfl,rfl⟩;obtain⟨x,f⟩:=J (oO (b.drop (4*t)) 4);rw[<-f];have m:=O f;clear f
  go_wp2
  go_roundw
  case rel=>
   refine⟨t+1,by go_num,by omega,?_,au.trans (bQ.setCell _ _ _ _)⟩;show aT _ _ _ (qZ _ _ _);rw[<-m];exact d.set _ _
  case measure=>simp[jC];omega
 have f:t=16:=Y;have bs:jm (aT wr w.heap.size 330 (fz b 0)):=by
  have h:=d;rw[f]at h;exact h
 clear d f;have bC:=aw ((t:N)<16)
 go_wp2_with fail
 go_loopw [6] (λa wr=>∃q:I,a=ja jg q/\16<=q/\q<=64/\jm (aT wr w.heap.size 330 (fz b (q-16)))/\jm (bQ w.heap.size S wr)) (λa _=>(64-jC a).toNat)
 case atStart=>exact⟨16,T,by omega,by omega,bs,au⟩
 obtain⟨q,rfl,bI,bK,f,m⟩:=hrel
 by_cases bM:q<64
 ·have bu:=az ((q:N)<64)
  have u:=f.cell (i:=q-15) (by rw[rj];omega);have v:=f.cell (i:=q-2) (by rw[rj];omega);have d:=P9 (fz b (q-16)) q;generalize(fz b (q-16)).getD (q-15) 0=x at u d;generalize(fz b (q-16)).getD (q-2) 0=y at v d;have r:=O d;clear d
  go_upto_region 9 with fail
  go_quiet (fail)
  go_upto_region 10 with fail
  have p:jm (aT (wr.drewN nq) w.heap.size 330 (fz b (q-16))):=f;have B:jm (bQ w.heap.size S (wr.drewN nq)):=m.trans ⟨T,T,T,T,λ_ _=>rfl⟩;obtain⟨C,z⟩:=J (wr.drewN nq);rw[<-z]at p B⊢;clear z u v f m;have d:=r.out;clear r;have u:=p.cell (i:=q-16) (by rw[rj];omega);have v:=p.cell (i:=q-7) (by rw[rj];omega);have D:=p.cell (i:=q) (by rw[rj];omega);have F:=p.frozen q;generalize(fz b (q-16)).getD (q-16) 0=z at u d;generalize(fz b (q-16)).getD (q-7) 0=E at v d;generalize(fz b (q-16)).getD q 0=R at D;have r:=O d;clear d;refine Tq 29 af af ?_;simp only[List.take_succ_cons,List.take_zero,List.drop_succ_cons,List.drop_zero]
  repeat (go_big_quiet_step (exact Calls.quiet_of_same (IM _ _ G _)))
  refine wpQuiet_nil ?_;rintro _ ⟨d,rfl⟩
  go_wp2
  go_roundw
  case rel=>
   refine⟨q+1,by go_num,by omega,by omega,?_,B.trans (bQ.trans (b:=C.drewN d) ⟨rfl,rfl,rfl,rfl,λ_ _=>rfl⟩ (bQ.setCell _ _ _ _))⟩;have H:q+1-16=(q-16)+1:=Y;have K:16+(q-16)=q:=Y;rw[H];show aT _ _ _ (qZ _ (16+(q-16)) (By _ (16+(q-16))));rw[K];rw[r];have h:=aT.set (W:=C.drewN d) p q (z+(iI x (-7)^^^iI x (-18)^^^x>>>3)+E+(iI y (-17)^^^iI y (-19)^^^y>>>10));have M:((x.toNat:N)/(8:N))=((x>>>3).toNat:N):=zY x 3 8 G;have Q:((y.toNat:N)/(1024:N))=((y>>>10).toNat:N):=zY y 10 1024 G;rw[M,Q,iH,iH,iH,iH,FU];exact h
  case measure=>simp[jC];omega
 have d:q=64:=Y;have z:jm (aT wr w.heap.size 330 (fz b 48)):=by
  have h:=f;rw[d]at h;exact h
 have bu:=aw ((q:N)<64);clear f d;have d:jm (aT wr g 289 s):=(m.block _ (by show g≠_;omega)).trans ((HB.block _ bp).trans HG);have l:s=[s.getD 0 0,s.getD 1 0,s.getD 2 0,s.getD 3 0,s.getD 4 0,s.getD 5 0,s.getD 6 0,s.getD 7 0]:=by
  match s,hs with
  |[a0,a1,a2,a3,a4,a5,a6,a7],_=>rfl
 have p:=d.cell (i:=0) Y;have r:=d.cell (i:=1) Y;have v:=d.cell (i:=2) Y;have B:=d.cell (i:=3) Y;have C:=d.cell (i:=4) Y;have E:=d.cell (i:=5) Y;have H:=d.cell (i:=6) Y;have K:=d.cell (i:=7) Y;generalize s.getD 0 0=s0 at p l;generalize s.getD 1 0=s1 at r l;generalize s.getD 2 0=s2 at v l;generalize s.getD 3 0=s3 at B l;generalize s.getD 4 0=s4 at C l;generalize s.getD 5 0=s5 at E l;generalize s.getD 6 0=s6 at H l;generalize s.getD 7 0=s7 at K l;have D:=O l;clear l
 go_upto_region 12 with fail
 obtain⟨u,h⟩:=J (#[jb jo s0.toNat,jb jo s1.toNat,jb jo s2.toNat,jb jo s3.toNat,jb jo s4.toNat,jb jo s5.toNat,jb jo s6.toNat,jb jo s7.toNat]);rw[<-h];have f:(s.map cB).toArray=u:=by rw[D,h];rfl
 have X:=O f;clear f h D p r v B C E H K;have B:wr.heap.size=w.heap.size+1:=m.size.trans br;have C:jn w w wr:=HB.trans (m.below (jA _));have h:aT (wr.alloc (jj u 289)) wr.heap.size 289 (kF s (fz b 48) 0):=by
  have:=jO wr (jj u 289);show _ =A (Obj.cells (s.map cB).toArray 289 (0,0));rw[X];exact this
 have p:aT (wr.alloc (jj u 289)) w.heap.size 330 (fz b 48):=(jH _ _ _ Y).trans z;have r:aT (wr.alloc (jj u 289)) g 289 s:=(jH _ _ _ Y).trans d;have v:jn w w (wr.alloc (jj u 289)):=C.alloc Y _;obtain⟨E,K⟩:=J (wr.alloc (jj u 289));rw[<-K]at h p r v⊢;obtain⟨H,M⟩:=J wr.heap.size;rw[<-M]at h B⊢;have bv:w.heap.size<H:=Y;have bc:=O h;have bd:=O p;have bw:=O r;have Ug:=O v;clear h p r v K M B C X d z m;have bf:=O (rj b 48);have d:oY s b=kp s (kF s (fz b 48) 64) 8:=T;have ax:=O d;clear d;generalize fz b 48=m at bc bd bf ax
 go_wp2_with fail
 go_loopw [69] (λa K=>∃r:I,a=ja jg r/\r<=64/\jm (aT K H 289 (kF s m r))/\jm (jn H E K)) (λa _=>(64-jC a).toNat)
 case atStart=>exact⟨0,T,by omega,bc,jM _ _⟩
 obtain⟨r,rfl,hr,h,z⟩:=hrel
 by_cases bg:r<64
 ·have bA:=az ((r:N)<64)
  have aa:jm (kF s m (r+1)=sd (kF s m r) (lY.getD r 0) (m.getD r 0)):=O T;have d:=O (Gu s m r hs);generalize kF s m r=V at h aa d;have C:wr.cell? ⟨w,r,jd⟩=A (ja jq (m.getD r 0).toNat):=gg (bd.cell (by rw[bf];exact bg)) (z.block _ bv);have ac:wr.cell? ⟨3,r,jd⟩=A (ja jq (lY.getD r 0).toNat):=
   gg (gg (HT r bg) (Ug.block _ bq)) (z.block _ (by show 3<H;omega))
  generalize lY.getD r 0=M at ac aa;generalize m.getD r 0=Q at C aa;have Zg:=O ac;have ad:=O C;have B:=h.cell (i:=0) (by rw[d];decide);have c1:=h.cell (i:=1) (by rw[d];decide);have c2:=h.cell (i:=2) (by rw[d];decide);have R:=h.cell (i:=4) (by rw[d];decide);have c5:=h.cell (i:=5) (by rw[d];decide);have c6:=h.cell (i:=6) (by rw[d];decide);have c7:=h.cell (i:=7) (by rw[d];decide);have p:=Rs V M Q;have f:=Qt V;generalize V.getD 0 0=v0 at B p f;generalize V.getD 1 0=v1 at c1 p f;generalize V.getD 2 0=v2 at c2 p f;generalize V.getD 4 0=v4 at R p f;generalize V.getD 5 0=v5 at c5 p f;generalize V.getD 6 0=v6 at c6 p f;generalize V.getD 7 0=v7 at c7 p f;have HP:=O p;have X:=O f;clear p f
  go_upto_region 15 with fail
  go_quiet (exact Calls.quiet_of_same (PC _ _))
  simp only[iH,Ex,FU,ln];rw[<-HP];have ay:jm (aT (wr.drewN nq) H 289 V):=h;have ba:jm (jn H E (wr.drewN nq)):=z.trans ⟨T,T,T,jA _,λ_ _=>rfl⟩;obtain⟨p,v⟩:=J (wr.drewN nq);rw[<-v]at ay ba⊢;have B:p.cell? ⟨H,0,jd⟩=A (ja jq v0.toNat):=by rw[v];exact B
  have c1:p.cell? ⟨H,1,jd⟩=A (ja jq v1.toNat):=by rw[v];exact c1
  have c2:p.cell? ⟨H,2,jd⟩=A (ja jq v2.toNat):=by rw[v];exact c2
  clear v h z R c5 c6 c7 Zg ad ac C
  go_upto_region 16 with fail
  go_quiet (exact Calls.quiet_of_same (Pk _ _))
  simp only[bor,Ex,ln];rw[<-X];have ac:jm (aT (p.drewN nq) H 289 V):=ay;have bb:jm (jn H E (p.drewN nq)):=ba.trans ⟨T,T,T,jA _,λ_ _=>rfl⟩;obtain⟨ad,v⟩:=J (p.drewN nq);rw[<-v]at ac bb⊢;clear v ay ba B c1 c2
  go_upto_region 17 with fail
  have ay:ad.drew.heap[H]?=A (jj (V.map cB).toArray 289 (0,0)):=ac.out;have ba:∀(j:I) (v:jh),((V.take 7).map cB)[j]?=A v->ad.drew.cell? ((⟨H,0,jd⟩:jP).add j)=A v:=by
   intro j v U;have bh:j<7:=by
    have:=(ow.1 U).1;simp at this;omega
   have C:j<V.length:=by rw[d];omega
   rw[Ep,mb,aT.cell (W:=ad.drew) ac C];simp[bh,C]at U;simp[<-U,cB,C,jU]
  have U:jm (jn H E ad.drew):=bb.trans ⟨T,T,T,jA _,λ_ _=>rfl⟩;have bh:=O ay;have bi:=O ba;have C:((V.take 7).map cB).length=7:=by simp[d.out]
  have bk:=O C;have bl:1+((V.take 7).map cB).length<=(V.map cB).length:=by rw[C];simp[d.out]
  have bm:=O bl;have bn:=O (Qs (V.take 7));clear ay ba C bl
  go_region_law (refine step_copy_splice T (.tmp 116) (.tmp 117) 334 334 T 281 underlying334 T (A ⟨H,1,jd⟩) (A ⟨H,0,jd⟩) 7 7 7 8 (by simp[Act.eval,Act.put]) (by simp[Act.eval,Act.put]) H 1 (V.map cB) 289 bh ((V.take 7).map cB) (by rw[bk];rfl) (λ_=>⟨T,_,T,bi⟩) bm bn H E U (jA _) ?_;intro w4 ay ba)
  have C:aT w4 H 289 (shR V):=by
   have e:splice (V.map cB) 1 ((V.take 7).map cB)=(shR V).map cB:=by simp[splice,shR,List.map_take,List.map_drop]
   show w4.heap[_]?=_;rw[ay,e]
  have WC:=O C;have Uq:=O ba;have D:=O (ID V d);have R:=C.cell (i:=4) (by rw[D];decide);have f4:=C.frozen 4;have f0:=C.frozen 0;have B:=C.cell (i:=0) (by rw[D];decide);clear C ay ba bn bm bk bi bh bb U ac;have U:sd V M Q=((shR V).set 4 ((shR V).getD 4 0+pR V M Q)).set 0 (pR V M Q+qR V):=T;have C:=O U;clear U;generalize shR V=U at WC R B C;generalize ac:U.getD 4 0=s4 at R C;generalize U.getD 0 0=s0 at B;generalize pR V M Q=pp at C⊢;generalize qR V=qq at C⊢
  go_wp2
  go_roundw
  case rel=>
   refine⟨r+1,by go_num,by omega,?_,?_⟩
   ·rw[aa,C]
    have h1:=WC.set 4 (s4+pp);have h2:=h1.set 0 (pp+qq);simp only[ln];exact h2
   exact(Uq.setCell (jA _) _).setCell (jA _) _
  case measure=>simp[jC];omega
 have j:r=64:=Y;have v:jm (aT wr H 289 (kF s m 64)):=j▸h;clear h j;have bA:=aw ((r:N)<64);have d:=O (Gu s m 64 hs);generalize kF s m 64=V at v d ax;have C:jm (aT wr g 289 (kp s V 0)):=(z.block _ (by show g<H;omega)).trans bw;obtain⟨j,rfl⟩:∃j:jc,j=wr:=⟨_,T⟩
 go_wp2_with fail
 go_loopw [129] (λa K=>∃i:I,a=ja jg i/\i<=8/\jm (aT K g 289 (kp s V i))/\jm (bQ g j K)) (λa _=>(8-jC a).toNat)
 case atStart=>exact⟨0,T,by omega,C,bQ.refl _ _⟩
 obtain⟨i,rfl,Q,a,h⟩:=hrel
 by_cases R:i<8
 ·have K:jm (aT wr H 289 V):=(h.block _ (by show H≠g;omega)).trans v
  have M:=a.cell (i:=i) (by rw[Ei];omega);have B:=K.cell (i:=i) (by rw[d];omega);have F:=a.frozen i;have p:jm (kp s V (i+1)=(kp s V i).set i ((kp s V i).getD i 0+V.getD i 0)):=O T;generalize(kp s V i).getD i 0=x at M p;generalize V.getD i 0=y at B p
  go_upto_region 24 with fail
  go_region
  rw[ln x y]
  go_wp2
  go_roundw
  case rel=>
   refine⟨i+1,by go_num,by omega,?_,?_⟩
   ·rw[p,ln];exact aT.set (W:=wr) a _ _
   exact h.trans (bQ.trans (bQ.setCell _ _ _ _) ⟨T,T,T,T,λ_ _=>rfl⟩)
  case measure=>simp[jC];omega
 have p:i=8:=Y;have x:jm (aT wr g 289 (oY s b)):=by rw[ax];exact p▸a
 clear a p
 go_wp2
 go_end0
 refine⟨T,x,λk hk a=>?_,?_⟩
 ·exact(h.block k a).trans ((z.block k Y).trans (Ug.block k hk))
 exact((Ug.mono (qi _)).trans (z.mono (qi _))).trans (h.below (qi _))
structure dy(g B:I)(w w':jc):Prop where
 os:w'.os=w.os
 tape:w'.tape=w.tape
 output:w'.output=w.output
 size:w.heap.size<=w'.heap.size
 block:∀k,k<B->k≠g->w'.heap[k]?=w.heap[k]?
theorem dy.refl(g B:I)(w:jc):dy g B w w:=⟨T,T,T,jA _,λ_ _ _=>rfl⟩
theorem dy.trans{g d:I}{b c:jc}(h:dy g B a b)(k:dy g d b c)(j:B<=d):dy g B a c:=
 ⟨k.os.trans h.os,k.tape.trans h.tape,k.output.trans h.output,qa h.size k.size,λi f e=>(k.block i Y e).trans (h.block i f e)⟩
theorem dy.below{g n:I}(h:dy g B w w')(a:n<=g)(b:n<=B):jn n w w':=
 ⟨h.os,h.tape,h.output,h.size,λk c=>h.block k Y Y⟩
theorem dy.of_below{g:I}(h:jn B w w'):dy g B w w':=
 ⟨h.os,h.tape,h.output,h.size,λk a _=>h.block k a⟩
theorem bQ.but{g:I}(h:bQ g w w')(B:I):dy g B w w':=
 ⟨h.os,h.tape,h.output,qL h.size.symm,λk _ a=>h.block k a⟩
def gF(s:je (jl 32))(l:LBy):I->je (jl 32)
 |0=>s
 |k+1=>oY (gF s l k) ((l.drop (64*k)).take 64)
theorem uJ(s l k)(h:s.length=8):(gF s l k).length=8:=by induction k with
 |zero=>exact h
 |succ k a=>exact Kz _ _ a
theorem EA(g gb o n c:I)(s:je (jl 32))(b:LBy)(a:s.length=8)(d:b.length=64)(f:64<=n)(i:n<=c)(w:jc)
 (k:aT w g 289 s) (l:∀j,j<64->w.cell? ⟨gb,o+j,jd⟩=A (ja jF (b.getD j 0).toNat)) (j:eM w):
 ju ji 188 #[jG (A ⟨g,0,jd⟩),jp (A ⟨gb,o,jd⟩) n c] w λe w'=>
  e=js (jL #[])/\aT w' g 289 (oY s b)/\dy g w.heap.size w w':=
 (RE g gb o n c s b a d f i w k l j).mono λe w' h=>⟨h.1,h.2.1,h.2.2.2.os,h.2.2.2.tape,h.2.2.2.output,h.2.2.2.size,h.2.2.1⟩
def fD:je (jl 32):=[1779033703,3144134277,1013904242,2773480762,1359893119,2600822924,528734635,1541459225]
def gM(w:jc):Prop:=Lib.TabIs ji w "chartroom/digest.start" .u32 (fD.map λx=>(x.toNat:N))
theorem On:ji.globalNamed "chartroom/digest.start" =A 1:=by kernel_rfl
theorem gM.cell(h:gM w)(t:I)(a:t<8):w.cell? ⟨1,t,jd⟩=A (ja jq (fD.getD t 0).toNat):=by
 have:=Lib.TabIs.cell h On t (by simpa [fD]using a);rw[this];have b:t<fD.length:=a;simp[b,jU]
def kM(n:I):I:=if 55<n%64 then 128 else 64
def nL(l:LBy):LBy:=(splice (mz 128 0) 0 (l.drop (64*(l.length/64)))).set (l.length%64) 0x80
def oI(l:LBy):LBy:=kJ (nL l) (kM l.length-8) 8 (nn 64 (l.length*8)) 8
def eu(s:je (jl 32)):I->LBy
 |0=>mz 32 0
 |i+1=>kJ (eu s i) (4*i) 4 ((s.getD i 0).setWidth 64) 4
theorem CG(s i):(eu s i).length=32:=by induction i with
 |zero=>simp[eu]
 |succ i a=>simp[eu,Ay,a]
def dN(l:LBy):LBy:=eu (gF (gF fD l (l.length/64)) (oI l) (kM l.length/64)) 8
theorem mB(l):(dN l).length=32:=CG _ _
theorem Eo(l:LBy):(nL l).length=128:=by
 unfold nL;rw[List.length_set,length_splice _ _ _ (by simp;omega)];simp
theorem TK(l:LBy):(oI l).length=128:=by rw[oI,Ay,Eo]
theorem BF(l:LBy)(k:I)(h:64*k+64<=l.length):((l.drop (64*k)).take 64).length=64:=by simp;omega
theorem Gy(l:LBy)(k j:I)(h:j<64):((l.drop (64*k)).take 64).getD j 0=l.getD (64*k+j) 0:=by
 simp[jU,h]
def lenOf:jh->I
 | .slice _ n _=>n
 |_=>0
theorem uu(t e:jr)(a:P.underlying t=A (.slice e))(b:∀w,(sizeOf e).run P w=.ok 1 w)(g o n c h:I)(d:h<=c)(f:0<c)(W:jc):
 (Instr.sliceAt t (jp (A ⟨g,o,jd⟩) n c) jd (A (ja jg (h:N))) jd).run P W=.ok (jp (A ⟨g,o,jd⟩) h c) W:=by
 have he:P.elem t=e:=by simp[Program.elem,a]
 rw[xu W t _ _ _ _ (by rw[he];exact a),run_slice_h W t _ n c (by rw[he];exact a) .i64 _ Y Y,he];simp[b,Result.andThen,sliced,Addr.add]
 try(rw[j5 Y])
 try(split<;>simp[*])
theorem Gl(t e:jr)(a:P.underlying t=A (.slice e))(b:∀w,(sizeOf e).run P w=.ok 1 w)(g o n c l:I)(d:l<=n)(f:n<=c):
 ∃p,(0<n-l->p=A ⟨g,o+l,jd⟩)/\∀W,(Instr.sliceAt t (jp (A ⟨g,o,jd⟩) n c) (A (ja jg (l:N))) jd jd).run P W=.ok (jp p (n-l) (c-l)) W:=by
 have he:P.elem t=e:=by simp[Program.elem,a]
 refine⟨if c=l then A ⟨g,o,jd⟩else A ⟨g,o+l,jd⟩,λh=>by rw[j5 Y],λW=>?_⟩;rw[xu W t _ _ _ _ (by rw[he];exact a),run_slice_l W t _ n c (by rw[he];exact a) .i64 _ Y Y,he];simp[b,Result.andThen,sliced,Addr.add]
 by_cases h:c=l
 ·simp[h]
 simp[h]
theorem JV(t e:jr)(n:I)(a:P.underlying t=A (.array n e))(c:∀w,(sizeOf e).run P w=.ok 1 w)(g o l h:I)(d:l<=h)(f:h<=n)(i:l<n)(W:jc):
 (Instr.sliceAt t (jG (A ⟨g,o,jd⟩)) (A (ja jg (l:N))) (A (ja jg (h:N))) jd).run P W=.ok (jp (A ⟨g,o+l,jd⟩) (h-l) (n-l)) W:=by
 have he:P.elem t=e:=by simp[Program.elem,a]
 have b:P.arrayLen t=n:=by simp[Program.arrayLen,a]
 rw[run_sliceAt_array_lh W t _ (by rw[he,b];exact a) .i64 .i64 _ _ Y Y (by rw[b];omega)];rw[he,b];simp[c,Result.andThen,slicedAt,Addr.add];rw[j5 Y]
 split<;>simp[*]
theorem RF(g o c:I)(t:jr)(a:LBy)(x:jl 32)(w:jc)(h:cI w g t a)(b:o+4<=a.length)(d:4<=c):
 ju ji 189 #[jp (A ⟨g,o,jd⟩) 4 c,ja jk x.toNat] w λe w'=>e=js (jL #[])/\bQ g w w'/\cI w' g t (kJ a o 4 (x.setWidth 64) 4):=by
 have e:(x.toNat:N)=((x.setWidth 64).toNat:N):=by have:=x.isLt;rw[qN,j3 Y]
 rw[e];exact Da g o c 4 t G a (x.setWidth 64) w h b d
theorem OB(g o c:I)(t:jr)(a:LBy)(n:I)(f:n<1000000000)(w:jc)(h:cI w g t a)(b:o+8<=a.length)(d:8<=c):
 ju ji 189 #[jp (A ⟨g,o,jd⟩) 8 c,ja jk ((n:N)*8)] w λe w'=>e=js (jL #[])/\bQ g w w'/\cI w' g t (kJ a o 8 (nn 64 (n*8)) 8):=by
 have e:(n:N)*8=((nn 64 (n*8)).toNat:N):=by rw[wx,j3 Y];simp
 rw[e];exact Da g o c 8 t G a (nn 64 (n*8)) w h b d
def ra:LBy:=mz 128 0
theorem M7:madeCells (jb .u8 0).cells (128*1)=(ra.map v8).toArray:=by
 kernel_rfl
theorem iT(l:LBy):∀a∈l.map v8,a.oneCell'=jf:=by
 intro a b;obtain⟨x,_,rfl⟩:=qb.1 b
 rfl
theorem LM:(ji.info? 5).map (λi=>(i.zero,i.size,i.bytes))=A (A (ja jF 0),1,1):=by kernel_rfl
theorem N2(w:jc):(Instr.makeSlice 30 (ja jg 64) (ja jg 128)).run ji w=.ok (jp (A ⟨w,0,jd⟩) 64 128) (w.alloc (jj (ra.map v8).toArray 5)):=by
 obtain⟨a,b,c,d,e⟩:=qc LM;have h:=run_make (P:=ji) w 30 5 a (ja jF 0) jR b c .i64 .i64 64 128 G G (by rw[e];decide) G;rw[d,show((128:N).toNat*1)=128*1 from T,M7]at h;exact h
theorem Na(V:je (jl 32))(c:V.length=8)(k:I)(b:k<8)(W:jc):
 (Instr.index 289 (jS (V.map cB).toArray) (ja jg (k:N))).run ji W=.ok (ja jq ((V.getD k 0).toNat:N)) W:=by
 have d:=underlying289;have agg46:∀w,(isAgg 281).run ji w=.ok jz w:=λw=>by go_simp
 have size46:∀w,(sizeOf 281).run ji w=.ok 1 w:=λw=>by go_simp
 have a:V[k]?=A (V.getD k 0):=by simp[c,b,jU]
 unfold Instr.index;simp only[xM]at a⊢;generalize V[k]?.getD 0=x at a⊢;simp[asIntOf,xt d,part,agg46,size46,a,b]
theorem eM.below(h:eM w)(a:jn B w w')(b:w.heap.size<=B):eM w':=(Lib.tabBelow_of_tabIs h) _ (a.mono b)
theorem tU(v:jh)(l:LBy)(hl:l.length<=1000000)(w:jc)(hv:bD w v l)(k:eM w)(a:gM w):
 ju ji 135 #[v] w λe w'=>e=js (jS ((dN l).map v8).toArray)/\jn w w w':=by
 obtain⟨p0,c0,rfl,Yr,t,r⟩:=hv;obtain⟨g,o,s,i⟩:∃g o,(0<l.length->p0=A ⟨g,o,jd⟩)/\(∀j,j<l.length->g<w.heap.size/\w.cell? ⟨g,o+j,jd⟩=A (ja jF (l.getD j 0).toNat)):=by
  rcases qg l.length with b|b
  ·exact⟨0,0,λh=>by omega,λj f=>by omega⟩
  obtain⟨g,o,d,c⟩:=r b;exact⟨g,o,λ_=>d,λj f=>⟨lX (c j f),c j f⟩⟩
 have Yg:=O s;have Vh:=O i;have HN:=O k;have c:=a.cell 0 G;have t1:=a.cell 1 G;have t2:=a.cell 2 G;have d:=a.cell 3 G;have m:=a.cell 4 G;have n:=a.cell 5 G;have p:=a.cell 6 G;have q:=a.cell 7 G;have C:1<w.heap.size:=lX c;clear s i t r k a;have a:(fD.map cB).toArray= #[cB (fD.getD 0 0),cB (fD.getD 1 0),cB (fD.getD 2 0),cB (fD.getD 3 0),cB (fD.getD 4 0),cB (fD.getD 5 0),cB (fD.getD 6 0),cB (fD.getD 7 0)]:=T;have k:fD.length=8:=T;have r:dN l=eu (gF (gF fD l (l.length/64)) (oI l) (kM l.length/64)) 8:=T;have x:=O r;clear r;generalize fD=b at c t1 t2 d m n p q a k x;generalize b.getD 0 0=H at c a;generalize b.getD 1 0=s1 at t1 a;generalize b.getD 2 0=s2 at t2 a;generalize b.getD 3 0=s3 at d a;generalize b.getD 4 0=s4 at m a;generalize b.getD 5 0=s5 at n a;generalize b.getD 6 0=s6 at p a;generalize b.getD 7 0=s7 at q a;have B:=O a;have bh:=O k;clear a k
 go_enter func135,ntmps135
 go_upto_region 2 with fail
 have a:aT ((w.alloc (jj a8 23)).alloc (jj #[jb jo H.toNat,jb jo s1.toNat,jb jo s2.toNat,jb jo s3.toNat,jb jo s4.toNat,jb jo s5.toNat,jb jo s6.toNat,jb jo s7.toNat] 289)) (w.heap.size+1) 289 (gF b l 0):=by
  have:=jO (w.alloc (jj a8 23)) (jj #[jb jo H.toNat,jb jo s1.toNat,jb jo s2.toNat,jb jo s3.toNat,jb jo s4.toNat,jb jo s5.toNat,jb jo s6.toNat,jb jo s7.toNat] 289);rw[j8]at this;show _ =A (Obj.cells (b.map cB).toArray 289 (0,0));rw[B];exact this
 have r:cI ((w.alloc (jj a8 23)).alloc (jj #[jb jo H.toNat,jb jo s1.toNat,jb jo s2.toNat,jb jo s3.toNat,jb jo s4.toNat,jb jo s5.toNat,jb jo s6.toNat,jb jo s7.toNat] 289)) w.heap.size 23 (eu [] 0):=by
  have:=jO w (jj a8 23);exact(jH _ _ _ ar).trans this
 have s:jn w w ((w.alloc (jj a8 23)).alloc (jj #[jb jo H.toNat,jb jo s1.toNat,jb jo s2.toNat,jb jo s3.toNat,jb jo s4.toNat,jb jo s5.toNat,jb jo s6.toNat,jb jo s7.toNat] 289)):=
  ⟨rfl,rfl,rfl,by simp;omega,λk hk=>by rw[jH _ _ _ (by simp;omega),jH _ _ _ hk]⟩
 obtain⟨K,t⟩:=J ((w.alloc (jj a8 23)).alloc (jj #[jb jo H.toNat,jb jo s1.toNat,jb jo s2.toNat,jb jo s3.toNat,jb jo s4.toNat,jb jo s5.toNat,jb jo s6.toNat,jb jo s7.toNat] 289));have u:K.heap.size=w.heap.size+2:=by rw[t];simp
 rw[<-t]at a r s⊢;obtain⟨D,y⟩:=J w.heap.size;have HA:=O a;have HD:=O r;have z:=O s;rw[<-y]at HA HD z u Vh⊢;have a2:=O u;have a3:=O y;clear a r s t u c t1 t2 d m n p q B C y
 go_wp2_with fail
 go_loopw [5] (λv m=>∃(k n c:I) (p:jE jP),v=jp p n c/\n<=c/\jm (64*k<=l.length/\n=l.length-64*k/\(0<n->p=A ⟨g,o+64*k,jd⟩))/\jm (aT m (D+1) 289 (gF b l k))/\jm (dy (D+1) (D+2) K m)) (λv _=>lenOf v)
 case atStart=>exact⟨0,l.length,c0,p0,T,Yr,⟨by omega,by omega,Yg⟩,HA,dy.refl _ _ _⟩
 obtain⟨k,n,c,p,rfl,bu,d,B,a⟩:=hrel
 by_cases E:64<=n
 ·have hd:=az (64<=(n:N))
  go_upto_region 6 with fail
  obtain⟨q1,q2,M⟩:=d.out;obtain rfl:p=A ⟨g,o+64*k,jd⟩:=M Y;have Q:=BF l k Y;have R:∀j,j<64->wr.cell? ⟨g,(o+64*k)+j,jd⟩=A (ja jF (((l.drop (64*k)).take 64).getD j 0).toNat):=λj f=>by
   obtain⟨r1,r2⟩:=Vh (64*k+j) Y;rw[Gy l k j f,q8];exact gg r2 ((a.block _ (by show g<_;omega) (by show g≠_;omega)).trans (z.block _ (by show g<_;omega)))
  have Vu:=O R;have a4:=O Q;have S:eM wr:=HN.below (z.trans (a.below Y Y)) (aI a3);have a5:=O S;have a6:=O (uJ b l k bh);obtain⟨U,V,t⟩:=Gl (P:=ji) 30 5 jR iK g (o+64*k) n c 64 E bu;have ba:=O V;have bv:∀W,(Instr.sliceAt 30 (jp (A ⟨g,o+64*k,jd⟩) n c) jd (A (ja jg 64)) jd).run ji W=.ok (jp (A ⟨g,o+64*k,jd⟩) 64 c) W:=
   uu (P:=ji) 30 5 jR iK g (o+64*k) n c 64 Y Y
  replace t:∀W,(Instr.sliceAt 30 (jp (A ⟨g,o+64*k,jd⟩) n c) (A (ja jg 64)) jd jd).run ji W=.ok (jp U (n-64) (c-64)) W:=t;clear R Q S V M q1 q2
  go_wp2_with fail
  refine(EA (D+1) g (o+64*k) 64 c _ _ a6.out a4 (jA _) Y _ B.out Vu a5).mono ?_;rintro e w' ⟨rfl,u,X⟩;have aa:=O u;have bb:=O (a.trans X (by have:=a.size;have:=a2.out;omega));clear u X
  go_wp2
  go_roundw
  case rel=>
   have q:=d.out;refine⟨k+1,n-64,c-64,U,T,by omega,⟨by omega,by omega,λh=>?_⟩,aa,bb⟩;rw[ba h];congr 2
  case measure=>simp[lenOf];omega
 have r:k=l.length/64/\n=l.length%64:=aI d;have bA:n<64:=Y;have hd:=aw (64<=(n:N));have F:0<n->p=A ⟨g,o+64*k,jd⟩:=d.2.2;have WE:(l.drop (64*k)).length=n:=by have:=d.out;simp;omega
 have ad:nL l=(splice (mz 128 0) 0 (l.drop (64*k))).set n 0x80:=by rw[nL,r.1,r.2]
 have au:dN l=eu (gF (gF b l k) (oI l) (kM l.length/64)) 8:=by rw[x,r.1]
 have ay:kM l.length=if 55<n then 128 else 64:=by rw[kM,r.2]
 have bi:=O ad;have ac:=O au;have y:=O ay;have bk:=O F;have C:=O WE;have s:=B;have ax:=O (uJ b l k bh);clear r F WE ad au ay d B x E;generalize gF b l k=x at s ac ax;have B:=N2;obtain⟨Z,r⟩:=J (ra.map v8);rw[<-r]at B;have d:=O r;clear r;have ay:jm (D+2<=wr.heap.size):=O (by have:=a.size;have:=a2.out;omega)
 go_upto_region 8 with fail
 clear B;have r:cI (wr.alloc (jj Z.toArray 5)) wr.heap.size 5 (mz 128 0):=by
  have:=jO wr (jj Z.toArray 5);show _ =A (Obj.cells (ra.map v8).toArray 5 (0,0));rw[<-d];exact this
 have a1:aT (wr.alloc (jj Z.toArray 5)) (D+1) 289 x:=(jH _ _ _ s.lt).trans s;have B:dy (D+1) (D+2) K (wr.alloc (jj Z.toArray 5)):=a.trans (dy.of_below (g:=D+1) ((jM wr.heap.size wr).alloc (jA _) _)) ay;have F:(wr.alloc (jj Z.toArray 5)).heap.size=wr.heap.size+1:=by simp
 obtain⟨W8,bg⟩:=J (wr.alloc (jj Z.toArray 5));rw[<-bg]at r a1 B F⊢;obtain⟨E,hE⟩:=J wr.heap.size;rw[<-hE]at r F ay⊢;have bl:D+2<=E:=ay.out;have WU:=O a1;have Wk:=O B;have bm:=O F;have bn:∀(j:I) (ad:jh),((l.drop (64*k)).map v8)[j]?=A ad->W8.cell? ((⟨g,o+64*k,jd⟩:jP).add j)=A ad:=by
  intro j ad f;have ZX:j<(l.drop (64*k)).length:=by
   have:=(ow.1 f).1
   simpa using this
  have Vm:64*k+j<l.length:=by simp at ZX;omega
  obtain⟨r1,r2⟩:=Vh (64*k+j) Vm;rw[Ep,q8,gg r2 ((B.block _ (by show g<_;omega) (by show g≠_;omega)).trans (z.block _ (by show g<_;omega)))];simp[Vm]at f;simp[<-f,v8,jU,Vm]
 have bc:=O bn;have bo:=O (show W8.heap[E]?=A (jj Z.toArray 5 (0,0)) by rw[d];exact r);have bd:=O (iT (l.drop (64*k)));have bp:0+((l.drop (64*k)).map v8).length<=Z.length:=by
  have h1:=C.out;rw[d,j9,h1,j9];simp[ra];omega
 have bf:=O bp;have i:((l.drop (64*k)).map v8).length=n:=by rw[j9];exact C
 have au:=O i;clear a1 B F bn bp i r bg hE a s;obtain⟨RB,a⟩:=J ((l.drop (64*k)).map v8);rw[<-a]at bc bd bf au;have bn:=O a;clear a
 go_upto_region 9 with(refine wpList_copy_splice T (.tmp 22) (.tmp 23) 30 30 T 5 jR T (A ⟨E,0,jd⟩) p 64 128 n c aj aj E 0 Z 5 bo RB (by rw[au];exact(Nat.min_eq_left Y).symm) (λh=>⟨T,_,bk.out (by rw[<-au];exact h),bc⟩) bf bd E W8 (jM _ _) (jA _) ?_;intro B s F)
 have a:cI B E 5 (splice (mz 128 0) 0 (l.drop (64*k))):=by
  show B.heap[E]?=_;rw[s,d,bn];simp[splice,ra,xO,List.map_drop]
 have H9:=O a;have r:=O F;have a1:(splice (mz 128 (0:jl 8)) 0 (l.drop (64*k))).length=128:=by rw[length_splice _ _ _ (by rw[C];simp;omega)];simp
 have c9:=a.cell (i:=n) (by rw[a1];omega);have f9:=a.frozen n;clear a s F a1
 go_upto_if 31 with(fail)
 have a:cI (B.setCell ⟨E,n,jd⟩ (ja jF 128)) E 5 (nL l):=by rw[bi];exact H9.set n 0x80
 have s:aT (B.setCell ⟨E,n,jd⟩ (ja jF 128)) (D+1) 289 x:=(qd _ _ _ _ (by show D+1≠E;omega)).trans ((r.block _ Y).trans WU);have F:dy (D+1) (D+2) K (B.setCell ⟨E,n,jd⟩ (ja jF 128)):=Wk.trans (dy.of_below (g:=D+1) (r.setCell (jA E) _)) bl;have a1:E<(B.setCell ⟨E,n,jd⟩ (ja jF 128)).heap.size:=by have:=r.size;have:=bm.out;simp;omega
 obtain⟨bw,bp⟩:=J (B.setCell ⟨E,n,jd⟩ (ja jF 128));rw[<-bp]at a s F a1⊢;have bg:=O a;have bq:=O s;have br:=O F;have bs:=O a1;clear a s F a1 bp c9 f9 H9 r au bf bd bo bc bn
 go_cut [6] (λv m=>v=jp (A ⟨E,0,jd⟩) (kM l.length) 128/\bw=m)
 case first=>
  by_cases r:55<n
  ·have a:=az (55<(n:N))
   rw[a];have s:∀W,(Instr.sliceAt 30 (jp (A ⟨E,0,jd⟩) 64 128) jd (A (ja jg 128)) jd).run ji W=.ok (jp (A ⟨E,0,jd⟩) 128 128) W:=
    uu (P:=ji) 30 5 jR iK E 0 64 128 128 Y Y
   go_wp2_with fail
   go_meet
   exact⟨by rw[y,o8 r],T⟩
  have a:=aw (55<(n:N));rw[a]
  go_wp2_with fail
  go_meet
  exact⟨by rw[y,j5 r],T⟩
 obtain⟨rfl,rfl⟩:=hcut;have F:kM l.length=64\/kM l.length=128:=by rw[y];split<;>simp
 have a:oI l=kJ (nL l) (kM l.length-8) 8 (nn 64 (l.length*8)) 8:=T;have s:=O a;have Vn:=O (TK l);have bc:=O (Eo l);clear a y bi;generalize kM l.length=a at F s ac⊢;generalize oI l=r at ac s Vn;generalize nL l=ea at s bg bc;have bp:64<=a:=Y;have bo:a<=128:=Y;have bf:∀W,(Instr.sliceAt 30 (jp (A ⟨E,0,jd⟩) a 128) (A (ja jg ((a:N)-8))) jd jd).run ji W=.ok (jp (A ⟨E,a-8,jd⟩) 8 (128-(a-8))) W:=λW=>by
  have h:=yg (P:=ji) 30 5 jR iK E 0 a 128 (a-8) Y Y W;rw[show((a-8:I):N)=(a:N)-8 by omega,show a-(a-8)=8 by omega,mb]at h;exact h
 have a1:=O F;clear F
 go_wp2_with fail
 refine(OB E (a-8) (128-(a-8)) 5 ea l.length Y _ bg.out (by rw[bc];omega) Y).mono ?_;rintro e F ⟨rfl,y,bd⟩;rw[<-s]at bd;have bi:=O bd;have Z1:jm (aT F (D+1) 289 (gF x r 0)):=(y.block _ Y).trans bq;have Uw:jm (dy (D+1) (D+2) K F):=br.trans (dy.of_below (g:=D+1) (y.below (jA E))) bl;have bn:E<F.heap.size:=by have:=y.size;have:=bs.out;omega
 have au:=O bn;clear y bd bn bf bg bq br bs s bc WU Wk bm d bk C ay HA
 go_wp2_with fail
 go_loopw [6] (λv m=>∃(k n c:I) (p:jE jP),v=jp p n c/\n<=c/\jm (64*k<=a/\n=a-64*k/\(0<n->p=A ⟨E,64*k,jd⟩))/\jm (aT m (D+1) 289 (gF x r k))/\jm (dy (D+1) F.heap.size F m)) (λv _=>lenOf v)
 case atStart=>exact⟨0,a,128,A ⟨E,0,jd⟩,T,bo,⟨by omega,by omega,λ_=>rfl⟩,Z1,dy.refl _ _ _⟩
 obtain⟨d,s,y,p2,rfl,bc,Vs,ay,C⟩:=hrel
 by_cases U6:0<s
 ·have hd2:=az (0<(s:N))
  go_upto_region 15 with fail
  obtain⟨q1,q2,M⟩:=Vs.out;obtain rfl:p2=A ⟨E,64*d,jd⟩:=M Y;have Q:=BF r d (by rw[Vn];have:=a1.out;omega);have bd:64<=s:=aI a1;have R:∀j,j<64->wr.cell? ⟨E,64*d+j,jd⟩=A (ja jF (((r.drop (64*d)).take 64).getD j 0).toNat):=λj f=>by
   have h1:cI wr E 5 r:=(C.block _ au.out Y).trans bi;rw[Gy r d j f];exact h1.cell (by rw[Vn];omega)
  have Vu:=O R;have a4:=O Q;have bg:D+1<F.heap.size:=aI au;have S:eM wr:=HN.below (z.trans ((Uw.below Y Y).trans (C.below Y Y))) (aI a3);have a5:=O S;have a6:=O (uJ x r d ax);have bv:∀W,(Instr.sliceAt 30 (jp (A ⟨E,64*d,jd⟩) s y) jd (A (ja jg 64)) jd).run ji W=.ok (jp (A ⟨E,64*d,jd⟩) 64 y) W:=
   uu (P:=ji) 30 5 jR iK E (64*d) s y 64 Y Y
  obtain⟨U,V,t⟩:=Gl (P:=ji) 30 5 jR iK E (64*d) s y 64 bd bc;have ba:=O V;replace t:∀W,(Instr.sliceAt 30 (jp (A ⟨E,64*d,jd⟩) s y) (A (ja jg 64)) jd jd).run ji W=.ok (jp U (s-64) (y-64)) W:=t;clear R Q S V M q1 q2
  go_wp2_with fail
  refine(EA (D+1) E (64*d) 64 y _ _ a6.out a4 (jA _) Y _ ay.out Vu a5).mono ?_;rintro e w' ⟨rfl,u,X⟩;have aa:=O u;have bb:=O (C.trans X C.size);clear u X
  go_wp2
  go_roundw
  case rel=>
   have q:=Vs.out;refine⟨d+1,s-64,y-64,U,T,by omega,⟨by omega,by omega,λh=>?_⟩,aa,bb⟩;rw[ba h];congr 2
  case measure=>simp[lenOf];omega
 obtain rfl:s=0:=Y;have M:d=a/64:=by have:=Vs.out;have:=a1.out;omega
 have f:jm (aT wr (D+1) 289 (gF x r (a/64))):=M▸ay;have q:=O (uJ x r (a/64) ax);clear ay M U6;generalize gF x r (a/64)=V at f q ac;have M:cI wr D 23 (eu V 0):=(C.block _ (aI au) Y).trans ((Uw.block _ Y Y).trans HD);have Q:jn D w wr:=z.trans ((Uw.below Y Y).trans (C.below Y (aI au)));have R:=O M;have S:=O Q;clear M Q C Uw HD z Vs bi Z1 a1 Vn au a2 ax
 go_upto_region 16 with fail
 refine qk ?_;refine ql T 289 _ T (D+1) T 289 (V.map cB).toArray (0,0) _ f.out underlying289 T (by rw[jW,j9,q];rfl) ?_;have z:∀(k:I) (hk:k<8) (W:jc),(Instr.index 289 (jS (V.map cB).toArray) (ja jg (k:N))).run ji W=.ok (ja jq ((V.getD k 0).toNat:N)) W:=λk hk W=>Na V q k hk W
 generalize(V.map cB).toArray=a1 at z⊢;have Q:=O z;clear z f;obtain⟨z,rfl⟩:∃z:jc,z=wr:=⟨_,T⟩
 go_wp2_with fail
 go_loopw [54] (λf m=>∃i:I,f=ja jg i/\i<=8/\jm (cI m D 23 (eu V i))/\jm (bQ D z m)) (λf _=>(8-jC f).toNat)
 case atStart=>exact⟨0,T,by omega,R,bQ.refl _ _⟩
 obtain⟨i,rfl,hi,f,M⟩:=hrel
 by_cases U:i<8
 ·have X:=Q i U
  have m:eu V (i+1)=kJ (eu V i) (4*i) 4 ((V.getD i 0).setWidth 64) 4:=T;have C:=O m;have au:=O (CG V i);have bf:∀W,(Instr.sliceAt 23 (jG (A ⟨D,0,jd⟩)) (A (ja jg (4*(i:N)))) (A (ja jg (4*(i:N)+4))) jd).run ji W=.ok (jp (A ⟨D,4*i,jd⟩) 4 (32-4*i)) W:=λW=>by
   have h:=JV (P:=ji) 23 5 32 qE iK D 0 (4*i) (4*i+4) Y Y Y W;rw[show 4*i+4-4*i=4 by omega,mb]at h
   simpa using h
  clear m;generalize V.getD i 0=m at X C;have ax:=az ((i:N)<8)
  go_wp2_with fail
  refine(RF D (4*i) (32-4*i) 23 (eu V i) m _ f.out (by rw[au];omega) Y).mono ?_;rintro e w' ⟨rfl,h,u⟩;rw[<-C]at u;have aa:=O u;have ay:=O (M.trans h);clear h u
  go_wp2
  go_roundw
  case rel=>exact⟨i+1,by go_num,by omega,aa,ay⟩
  case measure=>simp[jC];omega
 have ax:=aw ((i:N)<8);have h:i=8:=Y;have X:jm (cI wr D 23 (dN l)):=by rw[ac];exact h▸f
 clear f h;have m:wr.heap[D]?=A (jj ((dN l).map v8).toArray 23 (0,0)):=X.out;have t:((dN l).map v8).toArray.size=32:=by rw[jW,j9,mB]
 have u:((dN l).map v8).toArray.all (·.oneCell')=jf:=by
  rw[qe];intro ad f;exact iT _ ad (ak f)
 have f:jn w w wr:=by rw[<-a3];exact S.trans (M.below (jA _))
 have UD:=O f;clear f;generalize h:((dN l).map v8).toArray=f at m t u;have HQ:=O h;clear h;have h:=O m;have C:=O t;have Va:=O u;clear m t u
 go_upto_region 21 with fail
 refine qk ?_;refine ql T 23 _ T D T 23 f (0,0) _ h.out qE T (by rw[C];rfl) ?_;refine qn T λ_ m=>rv 23 _ _ T D f T T 23 f h.out (by rw[C];rfl) T Va (m _ _ ?_)
 rw[ri h]
 go_wp2_with fail
 refine o1 (v:=jS f) ?_ T ?_
 ·exact r4 T _ _ _ 23 _ (0,0) _ T h qE T (by rw[C];rfl)
 exact⟨by rw[HQ],UD⟩
theorem vu:(ji.info? 23).map (·.size)=A 32:=by kernel_rfl
theorem zm(w:jc)(c a:jt jh)(d:c.size=32)(b:a.size=32)(e:a.all (·.oneCell')=jf):
 (storeCells ⟨w,0,jd⟩ a.toList 0).run ji (w.alloc (jj c 23))=.ok () (w.alloc (jj a 23)):=
 run_storeCells_new w _ c a (by rw[vu,b]) (by rw[d,b]) e
def gR:LBy:=[116,97,103]
def dl(t l:LBy):LBy:=dN (dN t++l)
theorem iN(t l):(dl t l).length=32:=mB _
theorem cI.lt'(h:cI w B t d):B<w.heap.size:=(jQ.1 h).1
theorem eM.lt(h:eM w):3<w.heap.size:=lX (h.cell 0 G)
theorem gM.below(h:gM w)(a:jn B w w')(b:w.heap.size<=B):gM w':=(Lib.tabBelow_of_tabIs h) _ (a.mono b)
def sT:ByteArray:=⟨#[116,97,103]⟩
def oJ(w:jc):jc:=Lib.bytesWorld w 5 sT
def yy(w:jc):I:=grownCap w 3 0 5
theorem Jm(w:jc):(convert 9 30 (qF ⟨#[116,97,103]⟩)).run ji w=.ok (jp (A ⟨w,0,jd⟩) 3 (yy w)) (oJ w):=
 Lib.run_convert_string_bytes (P:=ji) w 9 30 5 sT qA jR qP
theorem KN(w:jc):bD (oJ w) (jp (A ⟨w,0,jd⟩) 3 (yy w)) gR:=by
 refine⟨_,_,T,grownCap_ge w 3 0 5,λh=>(by cases h),λ_=>⟨w.heap.size,0,T,λj a=>?_⟩⟩;have h:=Lib.bytesWorld_cell w 5 sT j a;rw[mb];refine h.trans ?_
 match j,a with
 |0,_=>rfl
 |1,_=>rfl
 |2,_=>rfl
theorem Iq(w:jc)(B:I)(a:B<=w.heap.size):jn B w (oJ w):=by
 refine⟨T,T,T,?_,λk b=>Lib.bytesWorld_at_old w 5 sT k Y⟩;have:=Lib.bytesWorld_size w 5 sT;unfold oJ;omega
theorem Ja(v:jh)(l:LBy)(W:l.length<=900000)(w:jc)(y:bD w v l)(a:eM w)(b:gM w):
 ju ji 73 #[qF ⟨#[116,97,103]⟩,v] w λe w'=>e=js (jS ((dl gR l).map v8).toArray)/\jn w w w':=by
 have q:=Jm;have M:=O y;obtain⟨n,o,rfl,-,-,-⟩:=y;have z:=O a;have B:=O b;clear a b
 go_enter func73,ntmps73
 go_wp2_with fail
 have a:jn w w (w.alloc (jj a8 23)):=(jM _ w).alloc (jA _) _;have f:cI (w.alloc (jj a8 23)) w.heap.size 23 (eu [] 0):=jO w _;have g:(w.alloc (jj a8 23)).heap.size=w.heap.size+1:=by simp
 obtain⟨c,j⟩:=J (w.alloc (jj a8 23));rw[<-j]at a f g⊢;have b:=KN c;have h:jn w w (oJ c):=a.trans (Iq c _ Y);have i:cI (oJ c) w.heap.size 23 (eu [] 0):=f.below (Iq c _ (jA _)) Y;rw[g]at b;obtain⟨C,k⟩:=J (yy c);rw[<-k]at b⊢;obtain⟨X,p⟩:=J (oJ c);rw[<-p]at b h i⊢;have d:=O h;have m:=O i;clear a f g j k p h i q;refine(tU _ gR G _ b (z.below d (jA _)) (B.below d (jA _))).mono ?_;rintro e w' ⟨rfl,p⟩;have x:cI w' w.heap.size 23 (eu [] 0):=m.below p m.lt';have h:=O x;have q:=ai d p;have i:((dN gR).map v8).toArray.size=32:=by rw[jW,j9,mB]
 have j:((dN gR).map v8).toArray.all (·.oneCell')=jf:=by
  rw[qe];intro r s;exact iT _ r (ak s)
 have t:dl gR l=dN (dN gR++l):=T;have u:=mB gR;generalize dN gR=a at i j t u⊢;have k:=O u;have P:=O t;generalize f:(a.map v8).toArray=g at i j⊢;have D:=O f;have E:=O j;clear f j p x b t u;have b:=zm w' a8 g T i E;clear m d
 go_upto_region 2 with fail
 clear b;have d:cI (w'.alloc (jj g 23)) w'.heap.size 23 a:=by
  show _ =A (Obj.cells (a.map v8).toArray 23 (0,0));rw[D];exact jO w' _
 have j:jn w w (w'.alloc (jj g 23)):=q.alloc q.size _;have p:cI (w'.alloc (jj g 23)) w.heap.size 23 (eu [] 0):=(jH _ _ _ h.lt').trans h;have Q:w.heap.size≠w'.heap.size:=by have:=h.lt';omega
 obtain⟨m,x⟩:=J w'.heap.size;rw[<-x]at d Q⊢;obtain⟨b,F⟩:=J (w'.alloc (jj g 23));rw[<-F]at d j p⊢;have R:=O d;have t:=O j;have u:=O p;clear d j p F x q h D E i;have d:bD b (jp (A ⟨m,0,jd⟩) 32 32) a:=by
  refine⟨_,32,by rw[k],by rw[k];exact jA _,λh=>(by cases h),λ_=>⟨m,0,T,λj i=>?_⟩⟩;rw[mb];exact R.cell i
 have h:bD b (jp n l.length o) l:=M.below t;have S:=O d;have U:=O h;clear d h
 go_wp2_with fail
 have d:jn b b (b.alloc (jj #[jp (A ⟨m,0,jd⟩) 32 32,jp n l.length o] 30)):=(jM _ _).alloc (jA _) _;have j:=O d;clear d;refine(uH b.heap.size 2 30 [jp (A ⟨m,0,jd⟩) 32 32,jp n l.length o] [a,l] T T (by have:=k.out;simp;omega) _ (jO b _) ?_ G).mono ?_
 ·intro i d
  match i,d with
  |0,_=>exact S.below j
  |1,_=>exact U.below j
 rintro e i ⟨D,rfl,d,q⟩;have x:[a,l].flatten=a++l:=by simp
 rw[x]at d;have h:jn b b i:=j.trans (q.mono ar);have E:bD i D (a++l):=bD.of_own d;have F:jn w w i:=t.trans (h.mono t.size);have p:=O F;have H:=O h;clear d q h F x
 go_wp2_with fail
 refine(tU D (a++l) (by have:=k.out;simp;omega) _ E (z.below p (jA _)) (B.below p (jA _))).mono ?_;rintro e h ⟨rfl,d⟩;have F:cI h w.heap.size 23 (eu [] 0):=(u.below H u.lt').below d (by have:=u.lt';have:=H.size;omega);have K:=O F;have V:=ai p d;rw[<-P];have q:((dl gR l).map v8).toArray.size=32:=by rw[jW,j9,iN]
 have x:((dl gR l).map v8).toArray.all (·.oneCell')=jf:=by
  rw[qe];intro r s;exact iT _ r (ak s)
 clear d F E;generalize f:((dl gR l).map v8).toArray=d at q x⊢;have s:=O f;have r:=O q;have E:=O x;clear f q x
 go_wp2_with (refine qn T λ_ f=>rv 23 _ _ T w.heap.size d T T 23 _ K.out (by rw[r];rfl) (by rw[r];simp[eu]) E (f _ _ ?_))
 have f:(h.setRow w.heap.size d).heap[w.heap.size]?=A (jj d 23 (0,0)):=setRow_heap _ _ _ _ _ _ K.out;have q:jn w w (h.setRow w.heap.size d):=below_setRow V (jA _) _;generalize h.setRow w.heap.size d=w8 at f q⊢;have x:=O q;have F:=O f;clear f q
 go_wp2_with fail
 refine o1 (v:=jS d) ?_ T ?_
 ·exact r4 T _ _ _ 23 _ (0,0) _ T F qE T (by rw[r];rfl)
 exact⟨by rw[s],x⟩
inductive Val where
 |mk (k n:N) (s:ByteArray) (l:je Val)
def Val.k:Val->N| .mk k _ _ _=>k
def Val.n:Val->N| .mk _ n _ _=>n
def Val.s:Val->ByteArray| .mk _ _ s _=>s
def Val.l:Val->je Val| .mk _ _ _ l=>l
abbrev emS:ByteArray:=⟨#[]⟩
def bZ(s:ByteArray):LBy:=s.data.toList.map UInt8.toBitVec
def ofB(l:LBy):ByteArray:=⟨(l.map UInt8.ofBitVec).toArray⟩
theorem yL(l:LBy):bZ (ofB l)=l:=by
 have e:(UInt8.toBitVec∘UInt8.ofBitVec)=id:=funext λb=>rfl
 simp[bZ,ofB,e]
theorem kQ(s:ByteArray):(bZ s).length=s.size:=by
 obtain⟨d⟩:=s;simp[bZ,ByteArray.size]
def nf:I->I->LBy
 |0,_=>[]
 |f+1,a=>if a<128 then [nn 8 a]else nn 8 (a%128+128)::nf f (a/128)
theorem He:∀(f g a:I),a<f->a<g->nf f a=nf g a
 |0,_,_,h,_=>qj h (xP _)
 |_,0,_,_,h=>qj h (xP _)
 |f+1,g+1,a,b,c=>by
  rw[nf,nf]
  by_cases h:a<128
  ·rw[o8 h,o8 h]
  rw[j5 h,j5 h,He f g (a/128) Y Y]
def cY(a:I):LBy:=nf (a+1) a
def iF(n:N):I:=if 0<=n then 2*n.toNat else 2*(-(n+1)).toNat+1
mutual
def enc:Val->LBy
 | .mk k n s l=>if k=1 then 1#8::cY (iF n)else if k=2 then 2#8::(cY s.size++bZ s)else 3#8::(cY l.length++encs l)
def encs:je Val->LBy
 |[]=>[]
 |x::xs=>enc x++encs xs
end
theorem yY(a b:je Val):encs (a++b)=encs a++encs b:=by
 induction a with
 |nil=>simp[encs]
 |cons x a c=>simp[encs,c]
def wfV:I->Val->Prop
 |f,.mk k n s l=>(k=1/\ -9223372036854775808<=n/\n<9223372036854775808/\s=emS/\l=[])\/(k=2/\n=0/\s.size<4611686018427387904/\l=[])\/
  (k=3/\n=0/\s=emS/\l.length<4611686018427387904/\match f with|0=>False|f+1=>∀x∈l,wfV f x)
theorem ts{a:I}(h:a<128):cY a=[nn 8 a]:=by unfold cY;rw[nf,o8 h]
theorem Im{a:I}(h:¬a<128):cY a=nn 8 (a%128+128)::cY (a/128):=by unfold cY;rw[nf,j5 h,He a (a/128+1) (a/128) Y Y]
theorem zf(n:N)(a: -9223372036854775808<=n)(b:n<9223372036854775808):iF n<2^64:=by
 unfold iF;split<;>omega
theorem DJ(x:Val):0<(enc x).length:=by
 obtain⟨k,n,s,l⟩:=x;rw[enc];split
 ·simp
 split<;>simp
theorem AM(l:je Val):l.length<=(encs l).length:=by
 induction l with
 |nil=>simp
 |cons x l a=>have:=DJ x;simp[encs];omega
structure ap where
 k:N
 d:N
 p:N
 v:N
 c:N
structure Bx where
 node:N
 lev:N
 u:N
 body:LBy
structure Wl where
 dev:N
 u:N
 body:LBy
structure Cmt where
 folder:N
 epoch:N
 parent:LBy
 author:N
 chg:je ap
 path:je N
 box:je Bx
 wel:je Wl
 confirm:LBy
 r:N
 s:N
structure aJ where
 dev:N
 since:N
 ver:N
structure Grp where
 folder:N
 epoch:N
 last:LBy
 mem:je aJ
 tree:je (N×N)
def vI(n:N):Val:=.mk 1 n emS []
def vT(b:LBy):Val:=.mk 2 0 (ofB b) []
def vL(l:je Val):Val:=.mk 3 0 emS l
def ap.val(x:ap):Val:=vL [vI x.k,vI x.d,vI x.p,vI x.v,vI x.c]
def Bx.val(x:Bx):Val:=vL [vI x.node,vI x.lev,vI x.u,vT x.body]
def Wl.val(x:Wl):Val:=vL [vI x.dev,vI x.u,vT x.body]
def aR(c:Cmt):je Val:=
 [vI c.folder,vI c.epoch,vT c.parent,vI c.author,vL (c.chg.map ap.val),vL (c.path.map vI),vL (c.box.map Bx.val),vL (c.wel.map Wl.val),vT c.confirm,vI c.r,vI c.s]
def nE(s:ByteArray)(w:jc):jc:=Lib.bytesWorld w 5 s
def zB(s:ByteArray)(w:jc):I:=grownCap w s.size 0 5
theorem Hn(s:ByteArray)(w:jc):(convert 9 30 (qF s)).run ji w=.ok (jp (A ⟨w,0,jd⟩) s.size (zB s w)) (nE s w):=
 Lib.run_convert_string_bytes (P:=ji) w 9 30 5 s qA jR qP
theorem BP(s:ByteArray)(w:jc):bD (nE s w) (jp (A ⟨w,0,jd⟩) s.size (zB s w)) (bZ s):=by
 refine⟨_,_,by rw[kQ],by rw[kQ];exact grownCap_ge w s.size 0 5,(λh=>(by cases h)),λ_=>⟨w.heap.size,0,T,λj a=>?_⟩⟩;rw[kQ]at a;have h:=Lib.bytesWorld_cell w 5 s j a;rw[mb];refine h.trans ?_
 congr 3
 have b:j<s.data.toList.length:=ak a;simp only[bZ,jU,xk];rw[q9 b]
 rfl
theorem AP(s:ByteArray)(w:jc)(B:I)(a:B<=w.heap.size):jn B w (nE s w):=by
 refine⟨T,T,T,?_,λk b=>Lib.bytesWorld_at_old w 5 s k Y⟩;have:=Lib.bytesWorld_size w 5 s;unfold nE;omega
theorem sg(s:ByteArray)(X:s.size<=100000)(v:jh)(l:LBy)(hl:l.length<=900000)(w:jc)(z:bD w v l)(a:eM w)(b:gM w):
 ju ji 73 #[qF s,v] w λe w'=>e=js (jS ((dl (bZ s) l).map v8).toArray)/\jn w w w':=by
 have q:=Hn s;have P:=O z;obtain⟨n,o,rfl,-,-,-⟩:=z;have B:=O a;have D:=O b;clear a b
 go_enter func73,ntmps73
 go_wp2_with fail
 have d:jn w w (w.alloc (jj a8 23)):=(jM _ w).alloc (jA _) _;have f:cI (w.alloc (jj a8 23)) w.heap.size 23 (eu [] 0):=jO w _;have g:(w.alloc (jj a8 23)).heap.size=w.heap.size+1:=by simp
 obtain⟨c,k⟩:=J (w.alloc (jj a8 23));rw[<-k]at d f g⊢;have a:=BP s c;have h:jn w w (nE s c):=d.trans (AP s c _ Y);have i:cI (nE s c) w.heap.size 23 (eu [] 0):=f.below (AP s c _ (jA _)) Y;rw[g]at a;have H:=kQ s;obtain⟨C,m⟩:=J (zB s c);rw[<-m]at a⊢;obtain⟨W2,p⟩:=J (nE s c);rw[<-p]at a h i⊢;have b:=O h;have j:=O i;clear d f g k m p h i q;have x:=a;clear a;refine(tU _ (bZ s) (by rw[kQ];omega) _ x (B.below b (jA _)) (D.below b (jA _))).mono ?_;rintro e w' ⟨rfl,m⟩;have y:cI w' w.heap.size 23 (eu [] 0):=j.below m j.lt';have d:=O y;have p:=ai b m;have h:((dN (bZ s)).map v8).toArray.size=32:=by rw[jW,j9,mB]
 have i:((dN (bZ s)).map v8).toArray.all (·.oneCell')=jf:=by
  rw[qe];intro q r;exact iT _ q (ak r)
 have t:dl (bZ s) l=dN (dN (bZ s)++l):=T;have u:=mB (bZ s);generalize dN (bZ s)=a at h i t u⊢;have k:=O u;have Q:=O t;generalize f:(a.map v8).toArray=g at h i⊢;have E:=O f;have F:=O i;clear f i m y x t u H;have i:=zm w' a8 g T h F;clear j b
 go_upto_region 2 with fail
 clear i;have i:cI (w'.alloc (jj g 23)) w'.heap.size 23 a:=by
  show _ =A (Obj.cells (a.map v8).toArray 23 (0,0));rw[E];exact jO w' _
 have j:jn w w (w'.alloc (jj g 23)):=p.alloc p.size _;have t:cI (w'.alloc (jj g 23)) w.heap.size 23 (eu [] 0):=(jH _ _ _ d.lt').trans d;have R:w.heap.size≠w'.heap.size:=by have:=d.lt';omega
 obtain⟨m,y⟩:=J w'.heap.size;rw[<-y]at i R⊢;obtain⟨b,H⟩:=J (w'.alloc (jj g 23));rw[<-H]at i j t⊢;have S:=O i;have u:=O j;have x:=O t;clear i j t H y p d E F h;have d:bD b (jp (A ⟨m,0,jd⟩) 32 32) a:=by
  refine⟨_,32,by rw[k],by rw[k];exact jA _,λh=>(by cases h),λ_=>⟨m,0,T,λj i=>?_⟩⟩;rw[mb];exact S.cell i
 have h:bD b (jp n l.length o) l:=P.below u;have U:=O d;have V:=O h;clear d h
 go_wp2_with fail
 have d:jn b b (b.alloc (jj #[jp (A ⟨m,0,jd⟩) 32 32,jp n l.length o] 30)):=(jM _ _).alloc (jA _) _;have j:=O d;clear d;refine(uH b.heap.size 2 30 [jp (A ⟨m,0,jd⟩) 32 32,jp n l.length o] [a,l] T T (by have:=k.out;simp;omega) _ (jO b _) ?_ G).mono ?_
 ·intro i d
  match i,d with
  |0,_=>exact U.below j
  |1,_=>exact V.below j
 rintro e i ⟨E,rfl,d,t⟩;have y:[a,l].flatten=a++l:=by simp
 rw[y]at d;have h:jn b b i:=j.trans (t.mono ar);have F:bD i E (a++l):=bD.of_own d;have H:jn w w i:=u.trans (h.mono u.size);have p:=O H;have K:=O h;clear d t h H y
 go_wp2_with fail
 refine(tU E (a++l) (by have:=k.out;simp;omega) _ F (B.below p (jA _)) (D.below p (jA _))).mono ?_;rintro e h ⟨rfl,d⟩;have H:cI h w.heap.size 23 (eu [] 0):=(x.below K x.lt').below d (by have:=x.lt';have:=K.size;omega);have M:=O H;have W:=ai p d;rw[<-Q];have t:((dl (bZ s) l).map v8).toArray.size=32:=by rw[jW,j9,iN]
 have y:((dl (bZ s) l).map v8).toArray.all (·.oneCell')=jf:=by
  rw[qe];intro q r;exact iT _ q (ak r)
 clear d H F;generalize f:((dl (bZ s) l).map v8).toArray=d at t y⊢;have F:=O f;have q:=O t;have H:=O y;clear f t y
 go_wp2_with (refine qn T λ_ f=>rv 23 _ _ T w.heap.size d T T 23 _ M.out (by rw[q];rfl) (by rw[q];simp[eu]) H (f _ _ ?_))
 have f:(h.setRow w.heap.size d).heap[w.heap.size]?=A (jj d 23 (0,0)):=setRow_heap _ _ _ _ _ _ M.out;have r:jn w w (h.setRow w.heap.size d):=below_setRow W (jA _) _;generalize h.setRow w.heap.size d=w8 at f r⊢;have t:=O r;have y:=O f;clear f r
 go_wp2_with fail
 refine o1 (v:=jS d) ?_ T ?_
 ·exact r4 T _ _ _ 23 _ (0,0) _ T y qE T (by rw[q];rfl)
 exact⟨by rw[F],t⟩
section
open Go.RowKit Go.Shelf
attribute [local go_sem] Oper.semAt_some
def QS:I:=2305843009213688668
theorem tj:QS=2305843009213688668:=T
def nR(n:I)(b:jl 8):I:=(n*256+b.toNat)%QS
def kt(l:LBy):I:=l.foldl nR 0
theorem S3(n:I)(b:jl 8):nR n b<QS:=qM _ G
theorem G2:∀(l:LBy) (n:I),n<QS->l.foldl nR n<QS
 |[],n,h=>h
 |b::r,n,h=>G2 r _ (S3 n b)
theorem ye(l:LBy):kt l<QS:=G2 l 0 G
theorem K6(l:LBy)(i:I)(b:jl 8)(h:l[i]?=A b):kt (l.take (i+1))=nR (kt (l.take i)) b:=by
 obtain⟨a,e⟩:=ow.1 h;rw[xQ a,e];simp[kt]
def oU(a l:LBy):I:=1+kt (dl a l)
theorem zD(a l:LBy):1<=oU a l/\oU a l<QN:=by
 have:=ye (dl a l);unfold oU;rw[tj]at this;unfold QN;omega
theorem SS(a b:I)(f:a<2305843009213688668)(d:b<18446744073709551616)(w:jc):
 ju ji 223 #[ja jk a,ja jk b,ja jk 2305843009213688668] w λe w'=>
  ∃(q:N) (r:I),e=js (jL #[ja jk q,ja jk r])/\jm (r=(a*18446744073709551616+b)%QS)/\jn w w w':=by
 rcases qg a with rfl|h
 ·refine(DivS.div64_0 b d w).mono ?_
  rintro e w' ⟨q,rfl,c⟩;exact⟨q,_,T,O (by rw[r9,mb,tj]),c⟩
 refine(DivS.div64_1 a b h f d w).mono ?_;rintro e w' ⟨q,rfl,c⟩;exact⟨q,_,T,O (by rw[tj]),c⟩
def O9(a n:I)(w w':jc):Prop:=jD w' a 248 (ja jk n)/\w.heap.size<=w'.heap.size/\w'.os=w.os/\w'.tape=w.tape/\w'.output=w.output/\∀k,k<w.heap.size->k≠a->w'.heap[k]?=w.heap[k]?
theorem SZ(b:jl 8)(n c g:I)(w:jc)(t:n<QS)(a:jD w c 248 (ja jk n))(h:jD w g 248 (ja jk 2305843009213688668))(j:c≠g):
 ju ji 242 #[v8 b,jG (A ⟨c,0,jd⟩),jG (A ⟨g,0,jd⟩)] w λe w'=>(∃v,e=js v)/\O9 c (nR n b) w w':=by
 have u:=a.cell;have v:=h.cell;have l:=b.isLt;rw[tj]at t;have o:bits .or .u64 (jJ.wrap ((n:N)*256)) (b.toNat:N)=((n%72057594037927936*256+b.toNat:I):N):=by
  have d:jJ.wrap ((n:N)*256)=((n%72057594037927936*256:I):N):=by rw[pz];omega
  rw[d,rk _ _ Y Y,show n%72057594037927936*256=(n%72057594037927936)<<<8 by rw[qY],<-Nat.shiftLeft_add_eq_or_of_lt (b:=b.toNat) (i:=8) l]
 have x:(n:N)/72057594037927936=((n/72057594037927936:I):N):=Y;obtain⟨p,k⟩:=J (n/72057594037927936);obtain⟨d,q⟩:∃d:I,d=n%72057594037927936*256+b.toNat:=⟨_,T⟩;rw[<-q]at o;rw[<-k]at x;have y:=O (SS p d Y Y);have s:jm (p*18446744073709551616+d=n*256+b.toNat):=O Y;have F:=O j;have z:=O a;have r:v8 b=ja jF b.toNat:=T;rw[r];obtain⟨m,f⟩:=J b.toNat;rw[<-f]at l o s⊢;have B:=O f;have H:(0:N)<=m:=Y;clear k q j a h r f
 go_enter func242,ntmps242
 go_wp2_with fail
 refine(y _).mono ?_;rintro e j ⟨q,r,rfl,C,a⟩;have h:=z.out;have f:jD j c 248 (ja jk n):=(a.block _ h.lt).trans h;have D:=O a;have K:=f.cell;have M:=f.frozen;have E:=O f;clear a u v f h
 go_wp2
 refine xq (nv T _ _ _) T ?_;refine⟨⟨_,T⟩,?_⟩;have f:=E.set (ja jk r);have h:r=nR n b:=by unfold nR;rw[C,s,B]
 rw[h]at f⊢;have a:=D.out;refine⟨f,by rw[World.size_setCell];exact a.size,a.os,a.tape,a.output,λk u v=>?_⟩;exact(qd _ _ _ _ v).trans (a.block k u)
theorem Rt(args:jt jh)(w:jc):(qK 242 args).run ji w=.ok (.enter 242 args) w:=by rfl
theorem JF(a:jt jh)(k:I)(v:jh)(b:k<32)(c:a[k]?=A v)(W:jc):
 (Instr.index 23 (jS a) (ja jg (k:N))).run ji W=.ok v W:=by
 have d:=qE;have e:(0:N)<=(k:N)/\(k:N)<((32:I):N):=Y;unfold Instr.index;simp[asIntOf,xt d,part,c,b]
theorem R6(d:LBy)(l:d.length=32)(w:jc):
 ju ji 204 #[jS (d.map v8).toArray,ja jk 2305843009213688668] w λe w'=>e=js (ja jk (kt d:I))/\jn w w w':=by
 have U:0<d.length:=Y;have j:(d.map v8).toArray.size=32:=by rw[jW,j9,l]
 have a:∀(k:I) (b:jl 8),d[k]?=A b->∀W:jc,(Instr.index 23 (jS (d.map v8).toArray) (ja jg (k:N))).run ji W=.ok (v8 b) W:=λk b g W=>by
  have u:=(ow.1 g).1;exact JF _ k _ Y (by rw[List.getElem?_toArray,xk,g];rfl) W
 obtain⟨i,c⟩:=J ((d.map v8).toArray);rw[<-c]at a j⊢;have x:=O a;have n:=O l;clear c l a
 go_enter func204,ntmps204
 go_upto_region 2 with fail
 obtain⟨m,f⟩:=J (((w.alloc (jj i 23)).alloc (jj #[ja jk 2305843009213688668] 248)).alloc (jj #[ja jk 0] 248));obtain⟨a,c⟩:=J w.heap.size;have o:m.heap[a]?=A (jj i 23):=by
  have h:=jO w (jj i 23);rw[f,c];exact(jH _ _ _ (by simp;omega)).trans ((jH _ _ _ ar).trans h)
 have q:jD m (a+1) 248 (ja jk 2305843009213688668):=by
  have h:=Boxed.new (w.alloc (jj i 23)) 248 (ja jk 2305843009213688668);rw[j8]at h;rw[f,c];exact h.alloc _
 have r:jD m (a+1+1) 248 (ja jk (0:I)):=by
  have h:=Boxed.new ((w.alloc (jj i 23)).alloc (jj #[ja jk 2305843009213688668] 248)) 248 (ja jk (0:I));rw[j8,j8]at h;rw[f,c];exact h
 have h:jn a w m:=by rw[f,c];exact(((jM _ w).alloc (jA _) _).alloc ar _).alloc (by simp;omega) _
 have s:a+3<=m.heap.size:=by rw[f,c];simp
 rw[<-f,<-c];have y:=O c;have z:=O q;have B:=O r;have C:=O h;have D:=O s;clear f c q r h s;refine qk ?_;refine ql T 23 _ T a T 23 i (0,0) _ o qE T (by rw[j];rfl) ?_;clear o j
 go_wp2_with fail
 go_loopw [10] (λt wr=>∃k:I,t=ja jg k/\k<=32/\jm (jD wr (a+1+1) 248 (ja jk (kt (d.take k):I)))/\jm (jD wr (a+1) 248 (ja jk 2305843009213688668))/\jm (jn a w wr)) (λt _=>(32-jC t).toNat)
 case atStart=>exact⟨0,T,by omega,O B,z,C⟩
 obtain⟨k,rfl,u,f,h,o⟩:=hrel
 by_cases V:k<32
 ·have l:=az ((k:N)<32)
  obtain⟨b,g⟩:∃b,d[k]?=A b:=by
   have:=n.out;exact⟨_,q9 Y⟩
  have s:=x k b g;have c:=O (SZ b (kt (d.take k)) (a+1+1) (a+1) wr (ye _) f h Y);have t:=O (K6 d k b g);have E:q7 (v8 b)=jf:=T;clear g;generalize v8 b=X at s c E;have q:=Rt
  go_wp2_with fail
  refine(c).mono ?_;rintro e w1 ⟨⟨v,rfl⟩,j⟩;have F:=O j;clear j c q
  go_wp2_with fail
  go_roundw
  case rel=>
   obtain⟨H,K,M,P,Q,q⟩:=F.out;have r:=h.out;have R:=r.lt;have c:=o.out;refine⟨k+1,T,by omega,O (by rw[t];exact H),O ((q _ R Y).trans r),O ⟨M.trans c.os,P.trans c.tape,Q.trans c.output,qa c.size K,λj S=>?_⟩⟩;exact(q j (by have:=c.size;have:=D.out;omega) Y).trans (c.block j S)
  case measure=>simp only[jC];omega
 have l:=aw ((k:N)<32);obtain rfl:k=32:=Y;have c:=f.out;rw[List.take_of_length_le (by rw[n];omega)]at c;have t:=c.cell;have E:=c.frozen;have j:=O c;clear c f
 go_wp2_with fail
 obtain⟨f,c⟩:=J (wr.setCell ⟨a+1+1,0,jd⟩ (ja jk (kt d:I)));have q:jD f (a+1+1) 248 (ja jk (kt d:I)):=by rw[c];exact j.set _
 have r:jn a w f:=by rw[c];exact sy o.out (p:=⟨a+1+1,0,jd⟩) (by simp;omega) _
 rw[<-c];have s:=q.cell;refine o1 (v:=ja jk (kt d:I)) (by simp[results,results204,go_sem,s]) T ?_;exact⟨T,by rw[<-y];exact r⟩
end
section
open Go.RowKit Go.Shelf
attribute [local go_sem] Oper.semAt_some
theorem Dm:(ji.info? 3).map (λi=>(i.zero,i.size,i.bytes))=A (A (ja jg 0),1,8):=by kernel_rfl
theorem eO.later{h:jt jh}{encs:H->jt jh}{S c V:je H->Prop}(lb:eO P B h encs f r S c V w)(d:jn w w a):eO P B h encs f r S c V a:=
 λl e w' W i j k m n=>lb l e w' W (d.trans (i.mono d.size)) j k m n
theorem LJ{gf:I}{lb:jt jh}(a:∀args w,(qK gf args).run ji w=.ok (.enter gf args) w){m:I->Prop}{q:I}{S H V:je N->Prop}{w:jc}
 (b:eO ji gf lb (λx:N=>#[ja jg x]) m q S H V w) (M:q<=w.heap.size) (r:∀k,m k->k<w.heap.size) (c:∀ys,V ys->ys.length<=1000000) (d:I) (o:d<=w.heap.size) (P:∀k,m k->d<=k):
 ju ji 240 #[jp jd 0 0,.func (.func gf) #[] lb] w λe w'=>∃v xs,e=js v/\S xs/\w'.ownsRow w 3 1 v xs.length (xs.map (jb .i64))/\jn d w w':=by
 obtain⟨Q,R,U,X,aa⟩:=qc Dm;have ac:=O b;have ad:=O a;have HV:=O c;clear b a c;refine(qC (n:=0)).1 ?_;refine xr func240 T trivial ?_ T;simp only[ntmps240,jW,oj,qo,qs,qt,qu,qv,qw,qx,p6,qy]
 gi_wp2_with fail
 obtain⟨f,a⟩:=J (w.alloc (jj #[jp jd 0 0] 38));have bN:jD f w.heap.size 38 (jp jd 0 0):=by rw[a];exact Boxed.new w _ _
 have s:jn w w f:=by rw[a];exact(jM _ w).alloc (jA _) _
 have ay:w.heap.size+1<=f.heap.size:=by rw[a];simp
 rw[<-a];clear a;refine rh (n:=0) (gf:=gf) (lb:=lb) T ad (ac.later s) Y (λ_=>rfl) (λk a=>by have:=r k a;omega)
  (λa Ψ W=>gP w.heap.size 38 w.heap.size 3 1 a.length (a.map (jb .i64)) (λ_=>True) Ψ W/\(jn d w W/\∀k,Ψ k->d<=k))
  (λ_ _ _ _=>False)
  ((mY f.heap.size w.heap.size 38 w.heap.size 3 1 (λa=>a.length) (λa:je N=>a.map (jb .i64)) (λ_ _=>True)).and (kH _ _ w o Y))
  (λ_=>fk _ _)
  ⟨⟨_,bN,λh=>by have:=r _ h;omega,xi _ _ _ _,by simp[xh],trivial⟩,s.mono o,P⟩
  (λx t _ _=>t={tmps:=#[jp jd 0 0,.func (.func gf) #[] lb,jG (A ⟨w,0,jd⟩),jB,jp jd 0 0,ja jg x,.func (.func gf) #[] lb,ja jg x,jB,jB,jB,jB,jB],defers:=[]}) (fk _ _)
  ?assign ?body ?done ?stop
 case assign=>
  intro l a x Ψ u K b _ i
  gi_wp2
  exact i _ _ (jM _ _) b T
 case body=>
  rintro l a x Ψ t u ⟨⟨v,b,y,g,z,-⟩,c,B⟩ rfl j K a1 a2;have au:=HV _ j;rw[xj,List.length_singleton]at au;have hc:=b.cell;have p:=O c;have a3:=c.size;clear c j
  gi_wp2_with (gi_at_builtin;refine wpListIn_append_own_at _ T _ _ 38 T w.heap.size 3 Q (ja jg 0) 1 8 xw R U X aa T G _ _ _ T (g.alloc _) ⟨u,0,jd⟩ 1 1 [ja jg x] T T (cell_one_new _ _ _) (by simp[q7]) (by unfold jY;omega) Y (by simp;omega) ?_;intro C w1 D E a4 F;obtain⟨g',a5,rfl⟩:=ownsRow_succ D;obtain⟨k,ax⟩:=se (B0:=f.heap.size) b G g Y (jA _) y z K D E (by intro j hj;rw[hj]at F;rcases F with h|h;exact .inl h.symm;exact .inr (ak h));have j:jD w1 w.heap.size 38 v:=(b.alloc _).kept E (by have:=b.not_row (e:=3) G g;exact this);have a6:=j.cell;have ba:=j.frozen)
  obtain⟨C,j,b2,b3,b4,b5⟩:=ax;refine⟨⟨k.1,k.2.1.mono M,k.2.2⟩,⟨C,j,b2,by simpa using b3,b4,trivial⟩,p.trans (k.2.1.mono o),B⟩
 case done=>
  rintro D xs Ψ W k j ⟨⟨v,b,y,g,z,-⟩,c,B⟩ i;have hc:=b.cell;have p:=O c;clear c
  gi_wp2
  refine⟨by simp,.inl ⟨_,_,T,qD i,?_⟩⟩;exact⟨_,results_tmp T _ _ _,_,xs,T,j,ownsRow_putObj g _ i T,p.trans (iA Y)⟩
 intro D c a Ψ W _ _ h;exact h.elim
theorem Dx{h:jt jh}(c:∀args w,(qK B args).run ji w=.ok (.enter B args) w){b:I->Prop}{d:I}{S l V:je N->Prop}{w:jc}
 (f:eO ji B h (λx:N=>#[ja jg x]) b d S l V w) (g:d<=w.heap.size) (lb:∀k,b k->k<w.heap.size) (i:∀ys,V ys->ys.length<=1000000) (a:I) (m:a<=w.heap.size) (j:∀k,b k->a<=k):
 ju ji 202 #[.func (.func B) #[] h] w λe w'=>∃v xs,e=js v/\S xs/\w'.ownsRow w 3 1 v xs.length (xs.map (jb .i64))/\jn a w w':=by
 have k:=O (LJ c f g lb i a m j);clear c f g lb i j
 go_enter func202,ntmps202
 go_wp2_with fail
 refine k.mono ?_;rintro e j ⟨v,xs,rfl,g,c,f⟩;have lb:=O c;have i:=O f;clear c f
 go_wp2
 go_ret;exact⟨v,xs,T,g,lb,i⟩
end
section
variable{b:I}
open Go Go.RowKit Go.Maps
def aO(x:N):Prop:=(Lit.int .i64 x).wf=jf
theorem aO.of{x:N}(h: -9223372036854775808<=x/\x<=9223372036854775807):aO x:=WalkArith.wf_i64 Y
structure EKind(P:jI)(e:jr)(α:Type) where
 ev:α->jh
 el:α->Lit
 z0:α
 ok:α->Prop
 reads:∀x,ok x->plainElem (H:=Unit) P e (ev x)=A (.lit (el x),[])
 inv:∀v z,plainElem (H:=Unit) P e v=A z->∃x,ok x/\v=ev x/\z=(.lit (el x),[])
 inj:∀x y,el x=el y->x=y
 ok0:ok z0
section
variable {P:jI} {k e:jr}
def dP(he:P.underlying e=A (.int .i64)):EKind P e N where
 ev:=.int .i64
 el:=.int .i64
 z0:=0
 ok:=aO
 reads:=λx h=>plainElem_int he h
 inv:=λv z h=>by obtain⟨a,b,c,d⟩:=plainElem_int_inv he h;exact⟨a,d,b,c⟩
 inj:=λx y h=>by cases h;rfl
 ok0:=by unfold aO;decide
theorem Py{P:jI}{e:jr}(he:P.underlying e=A .bool){v:jh}{z:DataW Unit×je MemPlace}(h:plainElem P e v=A z):∃a,v=.bool a/\z=(.lit (.bool a),[]):=by
 unfold plainElem at h;rw[he]at h
 cases v<;>simp at h
 exact⟨_,T,h.symm⟩
def ig(he:P.underlying e=A .bool):EKind P e jw where
 ev:=.bool
 el:=.bool
 z0:=jz
 ok:=λ_=>True
 reads:=λx _=>plainElem_bool he x
 inv:=λv z h=>by obtain⟨a,b,c⟩:=Py he h;exact⟨a,trivial,b,c⟩
 inj:=λx y h=>by cases h;rfl
 ok0:=trivial
variable {α:Type} {E:EKind P e α}
def aY(E:EKind P e α)(k:jr)(w:jc)(b n:I)(f:N->jE α):Prop:=
 ∃D:DataW Unit,w.ownsMap P k (plainElem P e) b n D/\∀x,aO x->has D (.int .i64 x)=(f x).isSome/\∀v,f x=A v->∀z,D.atKey (.int .i64 x) z=.lit (E.el v)
theorem CJ{x:N}(h:aO x):WideAt.IsKeyLit (.int .i64 x):=trivial
theorem aY.made(E:EKind P e α)(k:jr)(w:jc):aY E k (w.alloc (.map #[] 0)) w.heap.size 0 (λ_=>jd):=
 ⟨.map [],World.ownsMap_made _ _ _ _,λx _=>⟨rfl,λv h=>by cases h⟩⟩
theorem aY.lt{w:jc}{d:I}{f:N->jE α}(h:aY E k w b d f):b<w.heap.size:=by
 obtain⟨D,a,_⟩:=h;exact a.lt
theorem aY.mono{w:jc}{n n':I}{f:N->jE α}(h:aY E k w b n f)(a:n<=n'):aY E k w b n' f:=by
 obtain⟨D,c,d⟩:=h;exact⟨D,c.mono a,d⟩
theorem aY.kept{w w':jc}{n:I}{a:jE I}{f:N->jE α}(h:aY E k w b n f)(c:w.grownBy w' a)(d:A b≠a):aY E k w' b n f:=by
 obtain⟨D,e,g⟩:=h;exact⟨D,e.kept c d,g⟩
theorem aY.of_block{w w':jc}{n:I}{f:N->jE α}(h:aY E k w b n f)(a:w'.heap[b]?=w.heap[b]?):aY E k w' b n f:=by
 obtain⟨D,⟨c,d,e,g⟩,i⟩:=h;exact⟨D,⟨c,d,a.trans e,g⟩,i⟩
theorem aY.below{w w':jc}{n B:I}{f:N->jE α}(h:aY E k w b n f)(a:jn B w w')(c:b<B):aY E k w' b n f:=h.of_block (a.block b c)
theorem aY.alloc{w:jc}{n:I}{f:N->jE α}(h:aY E k w b n f)(o:Obj):aY E k (w.alloc o) b n f:=h.kept (World.grownBy_alloc w o jd) ar
theorem aY.setCell{w:jc}{n:I}{f:N->jE α}(h:aY E k w b n f){a:jP}(d:b≠a.block)(c:jh):aY E k (w.setCell a c) b n f:=by
 obtain⟨D,e,g⟩:=h;exact⟨D,e.setCell d c,g⟩
theorem aY.congr{w:jc}{d:I}{f g:N->jE α}(h:aY E k w b d f)(c:∀x,aO x->f x=g x):aY E k w b d g:=by
 obtain⟨D,n,e⟩:=h;exact⟨D,n,λx a=>by rw[<-c x a];exact e x a⟩
theorem aY.look{w:jc}{n:I}{f:N->jE α}(h:aY E k w b n f)(i:P.underlying k=A (.int .i64)){t:jr}(l:P.underlying t=A (.map k e))(g:(zeroValue e).run P w=.ok (E.ev E.z0) w){x:N}(m:aO x)(ok:jw):
 (Instr.lookup t (.map (A b)) (.int .i64 x) ok).run P w=.ok (if ok then .tuple #[E.ev ((f x).getD E.z0),.bool (f x).isSome]else E.ev ((f x).getD E.z0)) w:=by
 obtain⟨D,o,s⟩:=h;obtain⟨j,u⟩:=s x m;have p:keyOf P k (.int .i64 x)=A (.int .i64 x):=keyOf_int_mk i m;have q:∀v a,plainElem (H:=Unit) P e v=A (D.atKey (.int .i64 x) (.lit (E.el E.z0)),a)->v=E.ev ((f x).getD E.z0):=λv a c=>by
  obtain⟨y,z,rfl,g⟩:=E.inv _ _ c;have d:=jv Prod.fst g;simp only at d
  cases hf:f x with
  |none=>
   rw[hf]at j;rw[atKey_of_not_has (ak j)]at d;have:E.z0=y:=E.inj _ _ (by injection d);simp[this]
  |some r=>
   rw[u r hf]at d;have:r=y:=E.inj _ _ (by injection d);simp[this]
 cases ok with
 |true=>
  obtain⟨v,a,d,c⟩:=o.look_ok (int_keyed i) l g (E.reads _ E.ok0) p;rw[d,q v a c,j]
  rfl
 |false=>
  obtain⟨v,a,d,c⟩:=o.lookup (int_keyed i) l g (E.reads _ E.ok0) p;rw[d,q v a c]
  rfl
theorem aY.put{w:jc}{n:I}{f:N->jE α}(h:aY E k w b n f)(j:P.underlying k=A (.int .i64)){t:jr}(p:P.underlying t=A (.map k e))(q:n<jY){x:N}(a:aO x){c:α}(r:E.ok c):
 ∃w',(Instr.mapUpdate t (.map (A b)) (.int .i64 x) (E.ev c)).run P w=.ok () w'/\aY E k w' b (n+1) (λy=>if y=x then A c else f y)/\w.mapTurned w' b:=by
 obtain⟨D,d,l⟩:=h;have s:keyOf P k (.int .i64 x)=A (.int .i64 x):=keyOf_int_mk j a;obtain⟨w',u,B,C⟩:=d.store (int_keyed j) p q s (E.reads _ r);refine⟨w',u,⟨_,B,λy m=>?_⟩,C⟩;dsimp only
 by_cases g:y=x
 ·subst g
  rw[o8 T];refine⟨by rw[has_put_same d.isMap (CJ a)];rfl,λv i z=>?_⟩
  cases i
  exact atKey_put_same d.isMap (CJ a) _ _
 rw[j5 g];have o:(Lit.int .i64 y)≠Lit.int .i64 x:=λh=>g (by injection h)
 refine⟨by rw[has_put_other o];exact(l y m).1,λv i z=>?_⟩;rw[atKey_put_other o];exact(l y m).2 v i z
theorem aY.del{w:jc}{d:I}{f:N->jE α}(h:aY E k w b d f)(n:P.underlying k=A (.int .i64)){t:jr}(m:P.underlying t=A (.map k e)){x:N}(o:aO x)(g:jr):
 ∃w',(Builtin.delete_ #[t,k] g #[.map (A b),.int .i64 x]).run P w=.ok (.tuple #[]) w'/\aY E k w' b d (λy=>if y=x then jd else f y)/\w.mapTurned w' b:=by
 obtain⟨D,p,i⟩:=h;have q:keyOf P k (.int .i64 x)=A (.int .i64 x):=keyOf_int_mk n o;obtain⟨w',r,s,u⟩:=p.drop (int_keyed n) m q g;refine⟨w',r,⟨_,s,λy j=>?_⟩,u⟩;dsimp only
 by_cases a:y=x
 ·subst a
  rw[o8 T];exact⟨has_del_same,λv c=>by cases c⟩
 rw[j5 a];have l:(Lit.int .i64 y)≠Lit.int .i64 x:=λh=>a (by injection h)
 refine⟨by rw[has_del_other l];exact(i y j).1,λv c z=>?_⟩;rw[atKey_del_other l];exact(i y j).2 v c z
variable {w:jc} {ops:jt jy} {rest:je jy} {o:jy} {a:Act} {Q:jT->Act->jc->Prop}
theorem vD{he:P.underlying e=A (.int .i64)}(c:o.guard=jd)(m x:ms)(t:jr)(d:o.op=Op.lookup t m x jf)(g:P.underlying k=A (.int .i64))(i:P.underlying t=A (.map k e))
 (j:(zeroValue e).run P w=.ok (.int .i64 0) w) (b n:I) (f:N->jE N) (l:a.eval m=.map (A b)) (h:aY (dP he) k w b n f) (z:N) (p:a.eval x=.int .i64 z) (q:aO z)
 (r:n0 P ops Q rest (a.put o.dst (.tuple #[.int .i64 ((f z).getD 0),.bool (f z).isSome])) w):n0 P ops Q (o::rest) a w:=by
 refine qn c λv s=>?_
 have u:=h.look g i j q jf;unfold Oper.wp;simp[jV,d,l,p,u,Result.andThen];exact s _ _ r
theorem No{he:P.underlying e=A (.int .i64)}(c:o.guard=jd)(m x:ms)(t:jr)(d:o.op=Op.lookup t m x jz)(g:P.underlying k=A (.int .i64))(i:P.underlying t=A (.map k e))
 (j:(zeroValue e).run P w=.ok (.int .i64 0) w) (b n:I) (f:N->jE N) (l:a.eval m=.map (A b)) (h:aY (dP he) k w b n f) (z:N) (p:a.eval x=.int .i64 z) (q:aO z)
 (r:n0 P ops Q rest (a.put o.dst (.int .i64 ((f z).getD 0))) w):n0 P ops Q (o::rest) a w:=by
 refine qn c λv s=>?_
 have u:=h.look g i j q jz;unfold Oper.wp;simp[jV,d,l,p,u,Result.andThen];exact s _ _ r
theorem ot(d:o.guard=jd)(m x v:ms)(t:jr)(g:o.op=Op.mapUpdate t m x v)(i:P.underlying k=A (.int .i64))(j:P.underlying t=A (.map k e))
 (b n:I) (f:N->jE α) (l:a.eval m=.map (A b)) (h:aY E k w b n f) (p:n<jY) (z:N) (q:a.eval x=.int .i64 z) (r:aO z) (c:α) (s:a.eval v=E.ev c) (u:E.ok c)
 (B:∀w',aY E k w' b (n+1) (λy=>if y=z then A c else f y)->w.mapTurned w' b->n0 P ops Q rest (a.put o.dst jB) w'):n0 P ops Q (o::rest) a w:=by
 refine qn d λH y=>?_
 obtain⟨w',C,D,F⟩:=h.put i j p r u;unfold Oper.wp;simp[jV,g,l,q,s,C,Result.andThen];exact y _ _ (B w' D F)
theorem Jg(c:o.guard=jd)(m x:ms)(t:jr)(d:o.op=Op.call {callee:=Callee.builtin Builtin.delete,args:=#[m,x],argTypes:=#[t,k]})(g:P.underlying k=A (.int .i64))(i:P.underlying t=A (.map k e))
 (b n:I) (f:N->jE α) (j:a.eval m=.map (A b)) (h:aY E k w b n f) (z:N) (l:a.eval x=.int .i64 z) (p:aO z)
 (q:∀w',aY E k w' b n (λy=>if y=z then jd else f y)->w.mapTurned w' b->n0 P ops Q rest (a.put o.dst (.tuple #[])) w'):n0 P ops Q (o::rest) a w:=by
 refine qn c λy r=>?_
 obtain⟨w',s,u,v⟩:=h.del g i p o.type;unfold Oper.wp;simp[jV,d,resolve,invoke,builtin,j,l,s,Result.andThen];exact r _ _ (q w' u v)
end
end
section
open Go.RowKit Go.Shelf Go.Maps Go.Sort
attribute [local go_sem] Oper.semAt_some
theorem Nk{R:jh->jE (DataW H×je MemPlace)}{i:I}{D:DataW H}{left:Lit->jw}{o:I}(h:w.ranges P t R B r i D left o)(c:a.heap[B]?=w.heap[B]?)(d:a.heap[r]?=w.heap[r]?):a.ranges P t R B r i D left o:=by
 obtain⟨e,f,g,n,j,l,m,w',p,q,s⟩:=h;exact⟨e,f,g,n,j,c.trans l,m,w',p,d.trans q,s⟩
theorem Oi{R:jh->jE (DataW H×je MemPlace)}{i:I}{D:DataW H}{left:Lit->jw}{o:I}(h:w.ranges P t R B r i D left o):B<w.heap.size/\r<w.heap.size:=by
 obtain⟨e,f,g,n,j,c,l,m,a,d,p⟩:=h;exact⟨(jQ.1 c).1,(jQ.1 d).1⟩
theorem bL.ofGrown{b:jE I}(h:w.grownBy a b)(c:∀k,b=A k->f k):bL B f w a:=
 ⟨h.os,h.tape,h.output,h.size,λk d Ψ=>.inl (h.block k d (λe=>Ψ (c k e.symm)))⟩
theorem Ez(a:jE I)(w:jc):
 ju ji 171 #[.map a] w λe w'=>e=.returned (.func (.func 226) #[] #[.pointer (A ⟨w,0,jd⟩)])/\w'=w.alloc (.cells #[.map a] 183):=by
 go_enter func171,ntmps171
 go_wp2
 go_ret;exact⟨T,T⟩
def k6(f:N->jE N)(xs:je N):Prop:=xs.Nodup/\(∀x∈xs,aO x/\(f x).isSome=jf)/\∀x,aO x->(f x).isSome=jf->x∈xs
theorem Nz(b d g o:I)(f:N->jE N)(w:jc)(u:aY (dP jN) 3 w b d f)(z:jD w g 183 (.map (A b)))(M:b<o)(h2:g<o):
 eO ji 226 #[.pointer (A ⟨g,0,jd⟩)] (λx:N=>#[.int .i64 x]) (λ_=>False) o (k6 f) (λ_=>True) (λys=>ys.length<=d) w:=by
 intro l q Jx W B a Yz j P;have Q:jD W g 183 (.map (A b)):=(B.block g z.lt).trans z;obtain⟨D,C,e⟩:=u.of_block (B.block b u.lt);have c:=C;have R:=c.size_le;have E:=O e;clear e;have p:=Q.cell;refine(qC (n:=0)).1 ?_;refine rn func226 T trivial ?_ T;simp only[ntmps226,jW,oj,qo,qs,qt,qu,qv,qw,qx,p6,qy]
 gi_wp2_with (first
  |(gi_at_range;refine wpListIn_range_own _ T _ 183 T 3 3 (int_keyed jN) qT _ b d _ T c ?_;intro w0 F i m)
  |gi_in)
 have S:=O a;have U:=O j;have V:q [] (λk=>k=W.heap.size) w0:=a [] _ _ W w0 P (bL.ofGrown i (λk e=>by cases e)) (λ_ h=>h.elim) (λk e=>.inr Y);have VQ:jm (W.heap.size+1=w0.heap.size):=O m.symm;have X:W.heap.size<w0.heap.size:=Y;have a2:=(Oi F).1;have a3:∀k,k<W.heap.size->w0.heap[k]?=W.heap[k]?:=λk r=>i.block k r ar
 have a4:b<W.heap.size:=C.lt;clear a j m i p c
 gi_loopw [3] (λ_ wr=>∃(left:Lit->jw) (s:I) (a:je N),wr.ranges ji 3 (plainElem ji 3) b W.heap.size d D left s/\CollectedI D left a/\a.length+s<=d/\q a (λk=>k=W.heap.size) wr/\W.heap.size<wr.heap.size)
  (λ_ wr=>wr.rangeLeft b W.heap.size)
 case atStart=>
  exact⟨_,_,[],F,CollectedI.start D,by simpa using R,V,X⟩
 obtain⟨left,s,a,t,i,a5,H,a6⟩:=hrel
 gi_wp2_with (first
  |(gi_at_next;refine wpListIn_next_ranges _ T _ T 3 (int_keyed jN) (plainElem ji 3) encZ id (λkey kl r=>by obtain⟨x,c,_⟩:=Maps.keyOf_i64 jN r;exact⟨x,c⟩) (λv _ _=>⟨v,T⟩) b W.heap.size d _ _ _ T t ?_ ?_)
  |gi_in)
 ·intro Yr aa
  gi_wp2
  refine xq (nv T _ _ _) T ?_;refine⟨⟨_,T⟩,.inl ⟨a,_,?_,H⟩⟩;refine⟨i.1,λx c=>?_,λx c hf=>?_⟩
  ·have h:=((i.2 x).1 c).1
   have m:aO x:=by
    obtain⟨es,rfl,ac⟩:=t.owns.keysOf;rw[has_eq,List.any_eq_true]at h;obtain⟨p,hp,hs⟩:=h;obtain⟨v,K⟩:=ac p hp;obtain⟨y,_,j,hl⟩:=Maps.keyOf_i64 jN K;have e:=WideAt.sameKey_eq hs;rw[e]at j;have:x=y:=by injection j
    rw[this];exact hl
   exact⟨m,by rw[<-(E x m).1];exact h⟩
  exact(i.2 x).2 ⟨by rw[(E x c).1];exact hf,aa _⟩
 intro x c kl yd yp m aa ac ZD K VB ad au WW p ba;obtain⟨x',ex,rfl,_⟩:=Maps.keyOf_i64 jN ac;obtain rfl:x=x':=encZ_inj ex;have ax:q a (λk=>k=W.heap.size) m:=S a _ _ wr m H (bL.ofGrown WW (λk e=>by cases e;rfl)) (λ_ h=>h) (λ_ h=>.inl h);have bb:W.heap.size<m.heap.size:=Y;have ay:(a++[x]).length<=d:=by simp;omega
 obtain⟨fn,tmps,assign,body,j,v⟩:=U a x _ m ax (λk e=>by omega) ay;clear p
 gi_wp2
 refine⟨T,v.mono ?_⟩;rintro e W3 (⟨rfl,YU,h,p⟩|⟨rfl,ZA,h,p⟩)
 ·have y:=Nk ad (h.block b M) (p _ T)
  have a1:W.heap.size<W3.heap.size:=by have:=h.size;omega
  clear p h v j
  gi_wp2
  go_roundw
  case rel=>exact⟨_,aa,a++[x],y,i.step ZD VB,by simp;omega,YU,a1⟩
  case measure=>rw[y.left_eq,t.left_eq];exact au
 gi_wp2
 refine o1 (nv T _ _ _) T ?_;exact⟨⟨_,T⟩,.inr ⟨_,_,trivial,ZA⟩⟩
end
theorem eH{a:jP}{v:jh}(h:w.cell? a=A v):a.block<w.heap.size:=by
 unfold j4 at h
 cases hb:w.heap[a.block]? with
 |none=>simp[hb]at h
 |some o=>exact(jQ.1 hb).1
theorem cH{p:jP}{v:jh}(h:w.cell? p=A v)(a:w'.heap[p.block]?=w.heap[p.block]?):w'.cell? p=A v:=by
 rw[World.cell?_of_block a];exact h
def bH(w:jc)(v:jh)(t:je (N×N)):Prop:=
 ∃p c,v=jp p t.length c/\t.length<=c/\(p=jd->t.length=0)/\(0<t.length->∃g o,p=A ⟨g,o,jd⟩/\
  ∀j,j<t.length->w.cell? ⟨g,o+j*2,jd⟩=A (ja jg (t.getD j (0,0)).1)/\w.cell? ⟨g,o+j*2+1,jd⟩=A (ja jg (t.getD j (0,0)).2))/\∀x∈t,aO x.1/\aO x.2
theorem bH.below{v:jh}{t:je (N×N)}(h:bH w v t)(d:jn w w w'):bH w' v t:=by
 obtain⟨p,c,rfl,e,f,i,k⟩:=h;refine⟨p,c,T,e,f,λl=>?_,k⟩;obtain⟨g,o,rfl,m⟩:=i l;refine⟨g,o,T,λj n=>?_⟩;obtain⟨a,b⟩:=m j n;exact⟨cH a (d.block g (eH a)),cH b (d.block g (eH b))⟩
def bG(t:je (N×N))(x:N):jE N:=(t.find? (λy=>y.1==x)).map (·.2)
theorem GJ(t:je (N×N))(a p x:N):bG (t++[(a,p)]) x=if(bG t a).isSome then bG t x else if x=a then A p else bG t x:=by
 unfold bG;rw[List.find?_append]
 cases hx:t.find? (λy=>y.1==x)with
 |none=>
  by_cases b:x=a
  ·subst b;simp[hx]
  have:(a==x)=jz:=by simpa using λh=>b h.symm
  simp[b,this,List.find?_cons]
 |some y=>
  by_cases b:x=a
  ·subst b;simp[hx]
  simp[b]
theorem pJ(w:jc):(zeroValue 3).run ji w=.ok (ja jg 0) w:=by kernel_rfl
theorem zd(t:je (N×N))(v:jh)(w:jc)(Q:bH w v t)(R:t.length<=1000000):
 ju ji 96 #[jS #[v]] w λe w'=>∃b,e=js (.map (A b))/\w.heap.size<=b/\aY (dP jN) 3 w' b t.length (bG t)/\jn w w w':=by
 obtain⟨p,c,rfl,S,l,i,j⟩:=Q;have g:=@run_makeMap ji
 go_enter func96,ntmps96
 go_wp2_with fail
 have a:jn w w ((w.alloc (jj #[jp p t.length c] 49)).alloc (.map #[] 0)):=((jM _ w).alloc (jA _) _).alloc ar _;have f:aY (dP jN) 3 ((w.alloc (jj #[jp p t.length c] 49)).alloc (.map #[] 0)) (w.heap.size+1) 0 (λ_=>jd):=by
  have h:=aY.made (dP jN) 3 (w.alloc (jj #[jp p t.length c] 49));rw[j8]at h;exact h
 obtain⟨W0,d⟩:=J ((w.alloc (jj #[jp p t.length c] 49)).alloc (.map #[] 0));rw[<-d]at a f⊢;clear d g;have U:=O a;have D:=O f;have V:=O i;have W:=O j;obtain⟨n,g⟩:=J t.length;have d:=O g;rw[<-g]at R S⊢;obtain⟨B,k⟩:=J (w.heap.size+1);rw[<-k]at D⊢;have aa:w.heap.size<B:=Y;clear a f i j g l k
 go_loopw [12] (λi wr=>∃k:I,i=ja jg k/\k<=n/\jm (aY (dP jN) 3 wr B k (bG (t.take k)))/\jm (jn w w wr)) (λi _=>n-(jC i).toNat)
 case atStart=>exact⟨0,T,qi _,D,U⟩
 obtain⟨k,rfl,hk,F,m⟩:=hrel
 by_cases q:k<n
 ·have X:=az ((k:N)<(n:N))
  have UC:=az (k<n);obtain⟨g,o,rfl,u⟩:=V.out (by rw[<-d];omega);obtain⟨i,j⟩:=u k (by rw[<-d];exact q);have f:=m.out;have H:=cH i (f.block g (eH i));have K:=cH j (f.block g (eH j));obtain⟨e,he⟩:=J (t.getD k (0,0));rw[<-he]at H K;have x:e∈t:=by
   rw[he];simp only[jU];rw[q9 (by rw[<-d];exact q)];simp
  obtain⟨l,r⟩:=W e x;obtain⟨a,s⟩:=e;dsimp only at H K l r;have HE:=O he;have z:=O l;have H2:=O r;clear f i j u he x l r;have M:=O (show t.take (k+1)=t.take k++[(a,s)] by
   rw[HE,xQ (by rw[<-d];exact q)];simp only[jU];rw[q9 (by rw[<-d];exact q)];rfl)
  have u:=O (F.alloc (jj #[ja jg a,ja jg s] 166));have C:=O (m.alloc m.size (jj #[ja jg a,ja jg s] 166))
  rcases xR (bG (t.take k) a)with i|⟨y,i⟩
  ·have l:=O i
   clear i
   go_wp2_with (first
    |(at_lookup;refine vD (he:=jN) T _ _ 183 T jN qT (pJ _) B k _ T u a T z ?_;rw[l])
    |(at_mapUpdate;refine ot (E:=dP jN) T _ _ _ 183 T jN qT B k _ T u (by unfold jY;omega) a T z s T H2 ?_;intro r x P))
   have Vw:=O x;have f:=O (C.grown P.grown C.size (λj hj=>by cases hj;omega));clear x P;refine⟨⟨k+1,by go_num,by omega,O ?_,f⟩,by simp only[jC];omega⟩;refine Vw.congr λx j=>?_
   rw[M,GJ,l]
   rfl
  have l:=O i;clear i
  go_wp2_with (at_lookup;refine vD (he:=jN) T _ _ 183 T jN qT (pJ _) B k _ T u a T z ?_;rw[l])
  refine⟨⟨k+1,by go_num,by omega,O ?_,C⟩,by simp only[jC];omega⟩;refine(u.mono (Nat.le_succ _)).congr λx j=>?_
  rw[M,GJ,l]
  rfl
 have X:=aw ((k:N)<(n:N));have UC:=aw (k<n);obtain rfl:k=n:=Y
 go_wp2
 go_ret;refine⟨B,T,by omega,?_,m⟩;have h:=F.out;rw[d,List.take_length]at h;exact h
section
variable {P:jI}
theorem FL{α:Type}{g:ms}{m:jt Tmp}{assign body:j0}{o:jT->Act->jc->Prop}{a:Act}{w:jc}{n:I}
 {gf:I} {lb:jt jh} (z:a.eval g=.func (.func gf) #[] lb) (B:∀args w,(qK gf args).run P w=.ok (.enter gf args) w)
 {encs:α->jt jh} {q:I->Prop} {u:I} {S y V:je α->Prop} (C:eO P gf lb encs q u S y V w)
 (E:u<=w.heap.size) (F:∀x,(encs x).size=m.size) (H:∀k,q k->k<w.heap.size)
 (e:je α->(I->Prop)->jc->Prop) (h:j0->je α->(I->Prop)->jc->Prop) (M:bY w.heap.size e) (Q:∀c,bY w.heap.size (h c)) (R:e [] q w)
 (i:α->Act->(I->Prop)->jc->Prop) (U:bY w.heap.size (fun(s:α×Act) Ψ W=>i s.1 s.2 Ψ W))
 (s:∀(l:I) (d:je α) (x:α) (Ψ:I->Prop) (b:jc) (K:Act->jc->Prop),e d Ψ b->V (d++[x])->
  (∀f j,jn b b j->e d Ψ j->i x f Ψ j->K f j)->
  assign.wpIn (Fence.wide.inRound l) 0 P (Exit.then K (λ_ _ _=>False)) {tmps:=(m.zip (encs x)).foldl (λt (p,v)=>t.setIfInBounds p v) a.tmps,defers:=[]} b)
 (p:∀(l:I) (d:je α) (x:α) (Ψ:I->Prop) (f:Act) (b:jc),e d Ψ b->i x f Ψ b->V (d++[x])->(∀k,Ψ k->k<b.heap.size)->w.heap.size+2<=b.heap.size->(∃r,b.heap[l]?=A (.loop r))->
  body.wpIn (Fence.wide.inRound l) 0 P (yF w.heap.size u e h (d++[x]) Ψ b) f b)
 (t:∀(D:I) (xs:je α) (Ψ:I->Prop) (W:jc),D=w.heap.size->S xs->e xs Ψ W->W.heap[D]?=A (.deferred (A []))->o .normal {a with defers:={target:=.collected D,args:=#[]}::a.defers} W)
 (v:∀(D:I) (c:j0) (d:je α) (Ψ:I->Prop) (W:jc),D=w.heap.size->y d->h c d Ψ W->W.heap[D]?=A (.deferred (A []))->c.wpIn Fence.wide n P o {a with defers:={target:=.collected D,args:=#[]}::a.defers} W):
 (Code.rangeFunc g m assign body).wpIn Fence.wide n P o a w:=
 rD z B C.v E F H e h M (λ_ _ _ _=>trivial) Q R i U (λl d x Ψ b K j _ c _ k=>s l d x Ψ b K j c k) (λl d x Ψ f b j D c K W X h1 k=>p l d x Ψ f b j D (let⟨_,_,c⟩:=c;c) K W (let⟨r,k⟩:=k;⟨r,by rw[X];exact k⟩)) t v
end
section
open Go.RowKit Go.Shelf
attribute [local go_sem] Oper.semAt_some
def df(f:N->jE N):I->I->je N
 |0,n=>if(f n).isSome then [(n:N)]else []
 |h+1,n=>if(f n).isSome then [(n:N)]else df f h (2*n)++df f h (2*n+1)
theorem SG{f:N->jE N}{h n:I}(a:(f n).isSome=jf):df f h n=[(n:N)]:=by
 cases h<;>simp[df,a]
theorem sX(f:N->jE N):∀h n,(df f h n).length<=2^h
 |0,n=>by simp only[df];split<;>simp
 |h+1,n=>by
  simp only[df]
  split
  ·simp;exact xS
  have a:=sX f h (2*n);have b:=sX f h (2*n+1);rw[xj,qh];omega
theorem zy(a:jE I)(n:N)(w:jc):
 ju ji 203 #[.map a,ja jg n] w λe w'=>
  e=js (.func (.func 241) #[] #[jG (A ⟨w,0,jd⟩),jG (A ⟨w.heap.size+1,0,jd⟩)])/\w'=(w.alloc (jj #[.map a] 183)).alloc (jj #[ja jg n] 3):=by
 go_enter func203,ntmps203
 go_wp2
 go_ret;exact⟨T,T⟩
theorem M4(a b:N)(w:jc):(Instr.index 266 (jS #[ja jg a,ja jg b]) (ja jg 0)).run ji w=.ok (ja jg a) w:=by kernel_rfl
theorem PE(a b:N)(w:jc):(Instr.index 266 (jS #[ja jg a,ja jg b]) (ja jg 1)).run ji w=.ok (ja jg b) w:=by kernel_rfl
theorem Hs(B0 b:I)(o:Obj)(j:b<B0):bY B0 (fun(_:H) Ψ W=>W.heap[b]?=A o/\¬Ψ b):=by
 rintro s Ψ d k B ⟨a,e⟩ f l g;have i:=(jQ.1 a).1;have c:¬d b:=λh=>by rcases g _ h with h|h;exact e h;omega
 refine⟨?_,c⟩
 rcases f.block b i c with h|⟨h,_⟩
 ·exact h.trans a
 omega
theorem bY.later{c:H->(I->Prop)->jc->Prop}(h:bY B c)(n:B<=r):bY r c:=λs Ψ d e B0 f a i j=>
 h s Ψ d e B0 f ⟨a.os,a.tape,a.output,a.size,λk l m=>by
  rcases a.block k l m with g|⟨g,g'⟩
  ·exact .inl g
  exact .inr ⟨by omega,g'⟩⟩ i j
theorem FE{e:jr}{α:Type}(E:EKind P e α)(B0 b n:I)(f:N->jE α)(l:b<B0):bY B0 (fun(_:H) Ψ W=>aY E t W b n f/\¬Ψ b):=by
 rintro s Ψ d m B ⟨a,g⟩ i o j;have c:¬d b:=λh=>by rcases j _ h with h|h;exact g h;have:=a.lt;omega
 refine⟨a.of_block ?_,c⟩
 rcases i.block b a.lt c with h|⟨h,_⟩
 ·exact h
 omega
def lR{α:Type}(b:I)(c:je I)(d:je α)(e:je α->(I->Prop)->jc->Prop)(f:je α)(Ψ:I->Prop)(W:jc):Prop:=
 ∃a,e (d++f) a W/\(∀k,Ψ k->k<W.heap.size->a k)/\(∀k,a k->k<W.heap.size)/\(∀k,k=b\/k=b+1->k<W.heap.size->a k)/\∀k∈c,a k
theorem vQ(n:je H){f:je H->(I->Prop)->jc->Prop}(o:bY B f):bY B (lR r m n f):=by
 rintro u Ψ v c B0 ⟨g,p,i,q,l,s⟩ b w j;have x:=b.size;refine⟨λk=>g k\/(c.heap.size<=k/\k<B0.heap.size),?_,λk a d=>?_,λk a=>?_,λk a d=>?_,λk a=>.inl (s k a)⟩
 ·refine o _ g _ c B0 p ⟨b.os,b.tape,b.output,b.size,λk a e=>?_⟩ (λk a=>.inl a) (λk a=>a.imp id (·.1))
  refine b.block k a (λt=>e (.inl ?_))
  rcases j k t with h|h
  ·exact i k h a
  omega
 ·by_cases e:k<c.heap.size
  ·rcases j k a with h|h
   ·exact .inl (i k h e)
   omega
  exact .inr ⟨by omega,d⟩
 ·rcases a with h|h
  ·have:=q k h;omega
  exact h.2
 by_cases e:k<c.heap.size
 ·exact .inl (l k a e)
 exact .inr ⟨by omega,d⟩
def mV{α:Type}(b:je I)(c:je α->(I->Prop)->jc->Prop)(d:je α)(W:jc):Prop:=
 ∃a,c d a W/\(∀k,a k->k<W.heap.size)/\∀k∈b,a k
theorem mV.wide{e:je H->(I->Prop)->jc->Prop}{i:je H}(h:mV m e i w)(n:bY B e){Ψ:I->Prop}(b:bL B Ψ w a)(j:∀k,Ψ k->w.heap.size<=k)(s:a.heap.size<=r):lR r m i e [] Ψ a:=by
 obtain⟨l,o,p,q⟩:=h;have t:=b.size;refine⟨λk=>l k\/(w.heap.size<=k/\k<a.heap.size),?_,λk d g=>.inr ⟨j k d,g⟩,λk d=>?_,λk d g=>by omega,λk d=>.inl (q k d)⟩
 ·rw[sv]
  refine n _ l _ w a o ⟨b.os,b.tape,b.output,b.size,λk d u=>?_⟩ (λk d=>.inl d) (λk d=>d.imp id (·.1));exact b.block k d (λf=>by have:=j k f;omega)
 rcases d with h|h
 ·have:=p k h;omega
 exact h.2
theorem lR.own{b:je H->(I->Prop)->jc->Prop}{c xs:je H}(h:lR B m c b xs f w):mV m b (c++xs) w:=by
 obtain⟨e,Ψ,j,g,k,i⟩:=h;exact⟨e,Ψ,g,i⟩
theorem mV.turns{b:je H->(I->Prop)->jc->Prop}{e:je H}(h:mV m b e w)(i:bY B b)(g:bL B (λ_=>False) w a):mV m b e a:=by
 obtain⟨j,l,d,n⟩:=h;have o:=g.size;exact⟨j,i.keep l ⟨g.os,g.tape,g.output,g.size,λk c _=>g.block k c (λh=>h)⟩,λk c=>by have:=d k c;omega,n⟩
def sE(f:N->jE N)(b e:I)(h n:I):Prop:=
 ∀(a c d:I) (w:jc),aY (dP jN) 3 w b e f->b<d->jD w a 183 (.map (A b))->jD w c 3 (ja jg (n:N))->d<=w.heap.size->
  eO ji 241 #[jG (A ⟨a,0,jd⟩),jG (A ⟨c,0,jd⟩)] (λx:N=>#[ja jg x]) (λk=>k=a\/k=c) d (λxs=>xs=df f h n) (λ_=>True) (λys=>ys<+:df f h n) w
theorem F8(f:N->jE N)(b R h n:I)(h1:512<=n*2^h)(h2:n*2^h<1024)(b0:1<=n)(b1:n<1024)(hz:n<512->∃u,h=u+1/\sE f b R u (2*n)/\sE f b R u (2*n+1))(a6:512<=n->h=0):sE f b R h n:=by
 intro g i n₀ w a ba c d Zv l Uv Jx W hW hJ Yz hY h0;have bb:=a.of_block (hW.block b a.lt);have bc:jD W g 183 (.map (A b)):=(hW.block g c.lt).trans c;have bd:jD W i 3 (ja jg (n:N)):=(hW.block i d.lt).trans d;clear a c d;have cm:=(bc.alloc (jj #[.func (.yield l) #[] #[]] 164)).cell;have cn:=(bd.alloc (jj #[.func (.yield l) #[] #[]] 164)).cell;have hI:aO (n:N):=aO.of Y;have ZD:=(bb.alloc (jj #[.func (.yield l) #[] #[]] 164)).look jN qT (pJ _) hI jf
 rcases xR (f n)with hf|⟨p,hf⟩
 ·rw[hf]at ZD
  have bw:(Instr.lookup 183 (.map (A b)) (ja jg (n:N)) jf).run ji (W.alloc (jj #[.func (.yield l) #[] #[]] 164))=.ok (jL #[ja jg 0,.bool jz]) (W.alloc (jj #[.func (.yield l) #[] #[]] 164)):=ZD;clear ZD;have HF:=O hf;have HJ:=O hJ;have ay:=O Yz;have HY:=O hY;have e:=O bb;have j:=O h0;clear hf hJ Yz hY bb h0
  by_cases h5:512<=n
  ·have hd:=az ((512:N)<=(n:N))
   have UC:=az (512<=n);obtain rfl:=a6 h5;have a:jm (df f 0 n=[]):=O (by simp[df,HF.out]);clear hz a6;refine(qC (n:=0)).1 ?_;refine rn qU T trivial ?_ T;simp only[ntmps241,jW,oj,qo,qs,qt,qu,qv,qw,qx,p6,qy]
   gi_wp2
   refine o1 (nv T _ _ _) T ?_;rw[a];exact⟨⟨_,T⟩,.inl ⟨_,HJ.keep j (bL.alloc _ _ _ _)⟩⟩
  have hd:=aw ((512:N)<=(n:N));have UC:=aw (512<=n);obtain⟨u,rfl,q,r⟩:=hz Y;refine(qC (n:=0)).1 ?_;refine xr qU T trivial ?_ T;simp only[ntmps241,jW,oj,qo,qs,qt,qu,qv,qw,qx,p6,qy]
  gi_wp2_with fail
  have Zj:jm (df f (u+1) n=df f u (2*n)++df f u (2*n+1)):=O (by simp[df,HF.out]);have s:∀k,k<2->sE f b R u (2*n+k):=λk a=>by
   rcases(show k=0\/k=1 by omega)with rfl|rfl
   ·exact q
   exact r
  have Vo:=O s;obtain⟨d,c⟩:=J (W.alloc (jj #[.func (.yield l) #[] #[]] 164));obtain⟨o,m⟩:=J W.heap.size;have M:jD d g 183 (.map (A b)):=by rw[c];exact bc.alloc _
  have S:jD d i 3 (ja jg (n:N)):=by rw[c];exact bd.alloc _
  have U:jD d o 164 (.func (.yield l) #[] #[]):=by rw[c,m];exact Boxed.new _ _ _
  have t:aY (dP jN) 3 d b R f:=by rw[c];exact e.alloc _
  have b2:b<W.heap.size:=e.lt;have b3:w.heap.size<=W.heap.size:=hW.size;have b4:W.heap.size+1<=d.heap.size:=by rw[c];simp
  have v:mV [g,i,o] Uv [] d:=by
   have hs:=(bL.alloc W.heap.size (λk=>k=g\/k=i\/k=o) W (jj #[.func (.yield l) #[] #[]] 164));rw[<-c]at hs;refine⟨λk=>k=g\/k=i\/k=o,HJ _ _ _ W d j hs (λk a=>by rcases a with h|h<;>simp[h]) (λk a=>?_),λk a=>?_,by simp⟩
   ·rcases a with h|h|h
    ·exact .inl (.inl h)
    ·exact .inl (.inr h)
    exact .inr Y
   have x:=M.lt;have y:=S.lt;have z:=U.lt
   rcases a with rfl|rfl|rfl<;>assumption
  rw[<-c,<-m];have HO:=O v;have V:=O t;have b5:W.heap.size<=o:=Y;clear bw cm cn c q r s hz a6 j e bc bd v t m;refine wpIn_loop_rounds 3 ?_;rw[roundsIn_succ];have cm:=M.cell;have bA:=λW=>M4 (2*(n:N)) (2*(n:N)+1) W
  gi_wp2_with fail
  refine⟨trivial,T,(callsIn_wide.2 (zy _ _ _)).mono ?_⟩;rintro e w' ⟨rfl,rfl⟩
  gi_wp2_with fail
  obtain⟨t,c⟩:=J ((d.alloc (jj #[.map (A b)] 183)).alloc (jj #[ja jg (2*(n:N))] 3));have bf:jD t d.heap.size 183 (.map (A b)):=by rw[c];exact(Boxed.new d _ _).alloc _
  have a1:((2*n:I):N)=2*(n:N):=by simp
  have bg:jD t (d.heap.size+1) 3 (ja jg ((2*n:I):N)):=by
   have h:=Boxed.new (d.alloc (jj #[.map (A b)] 183)) 3 (ja jg (2*(n:N)));rw[j8]at h;rw[a1,c];exact h
  have bB:d.heap.size+2=t.heap.size:=by rw[c];simp
  have a2:bL W.heap.size (λk=>k=d.heap.size\/k=d.heap.size+1) d t:=by
   rw[c];refine⟨T,T,T,by simp;omega,λk a _=>.inl ?_⟩;rw[jH _ _ _ (by simp;omega),jH _ _ _ a]
  have H:jn d d t:=by rw[c];exact((jM _ d).alloc (jA _) _).alloc ar _
  have bh:lR t.heap.size [g,i,o] [] Uv [] (λk=>k=d.heap.size\/k=d.heap.size+1) t:=HO.wide HJ a2 (by rintro k (rfl|rfl)<;>omega) (jA _);have bi:jD t g 183 (.map (A b)):=(H.block _ M.lt).trans M;have bk:jD t i 3 (ja jg (n:N)):=(H.block _ S.lt).trans S;have bl:jD t o 164 (.func (.yield l) #[] #[]):=(H.block _ U.lt).trans U;have au:aY (dP jN) 3 t b R f:=V.below H V.lt;have bC:=V.lt;have bI:=M.lt;have bK:=S.lt;have bM:=U.lt;have ax:W.heap.size<=t.heap.size:=Y;have a3:=Vo 0 G d.heap.size (d.heap.size+1) n₀ t au ba bf bg Y;have bm:=O a3;rw[<-c];clear a3 a1 c a2 H HO V;refine FL (n:=0) (gf:=241) (lb:=#[jG (A ⟨d,0,jd⟩),jG (A ⟨d.heap.size+1,0,jd⟩)]) T (enters_of qU af T)
   bm Y (λ_=>rfl) (by rintro k (rfl|rfl)<;>omega)
   (λv Ψ W=>lR t.heap.size [g,i,o] [] Uv v Ψ W/\(jD W g 183 (.map (A b))/\¬Ψ g)/\(jD W i 3 (ja jg (n:N))/\¬Ψ i)/\(jD W o 164 (.func (.yield l) #[] #[])/\¬Ψ o)/\(aY (dP jN) 3 W b R f/\¬Ψ b))
   (λc v Ψ W=>c=.ret/\lR t.heap.size [g,i,o] [] Jx v Ψ W)
   ((vQ [] (HJ.later ax)).and ((iQ _ _ _ (λ_=>_)).and ((iQ _ _ _ (λ_=>_)).and ((iQ _ _ _ (λ_=>_)).and (FE _ _ _ _ _ Y)))))
   (λc=>(fk _ _).and (vQ [] (ay.later ax)))
   ⟨bh,⟨bi,by omega⟩,⟨bk,by omega⟩,⟨bl,by omega⟩,⟨au,by omega⟩⟩
   (λx a4 _ _=>a4={tmps:=#[.func (.yield l) #[] #[],jG (A ⟨g,0,jd⟩),jG (A ⟨i,0,jd⟩),jG (A ⟨o,0,jd⟩),ja jg 0,.bool jz,jB,ja jg (2*(n:N)),ja jg x,jL #[ja jg 0,.bool jz],.map (A b),ja jg (n:N),jL #[ja jg 0,.bool jz],ja jg 0,.bool jz,.bool jz,jB,jB,jB,ja jg (n:N),.bool jz,ja jg (n:N),ja jg (2*(n:N)),ja jg (n:N),ja jg (2*(n:N)),ja jg (2*(n:N)+1),jS #[ja jg (2*(n:N)),ja jg (2*(n:N)+1)],ja jg 0,.bool jf,ja jg (2*(n:N)),.map (A b),ja jg (2*(n:N)),.func (.func 241) #[] #[jG (A ⟨d,0,jd⟩),jG (A ⟨d.heap.size+1,0,jd⟩)],ja jg x,jB,jB,jB,jB,jB],defers:=[]}) (fk _ _)
   ?assign0 ?body0 ?done0 ?stop0
  case assign0=>
   intro l2 v x Ψ a5 K hI _ r
   gi_wp2
   exact r _ _ (jM _ _) hI T
  case body0=>
   rintro l2 v x Ψ a4 a5 ⟨aa,⟨q,nm⟩,⟨z,bn⟩,⟨m,ny⟩,⟨bo,nk⟩⟩ rfl hV Ye bN bq;obtain⟨y,B,g2,P,g4,Q⟩:=aa;obtain⟨fn,tmps,assign,body,hy,X⟩:=HY ([]++v) x y a5 B P (by rw[Zj];rw[p6];exact hV.trans (List.prefix_append _ _));have cy:=m.cell;have Vz:=O g2;have YY:=O P;have C:=O g4;have E:=O Q;have We:=O Ye;clear B g2 P g4 Q Ye hV bq
   gi_wp2
   refine⟨T,RoundIn.mono X ?_⟩;rintro e W3 (⟨rfl,YU,s,F⟩|⟨rfl,ZA,s,F⟩)
   ·have ac:=s.size
    have j:=O F;have Uj:=O s;clear F s X hy cy
    gi_wp2
    refine⟨⟨⟨j _ (C _ (.inl T) Y),j _ (C _ (.inr T) Y)⟩,Uj,λk a=>j k (Vz k a (We k a))⟩,
     ⟨y,by rw[<-qO];exact YU,λk a _=>Vz k a (We k a),λk a=>qz (YY k a) ac,λk a _=>C k a Y,E⟩,
     ⟨(j _ (E g ar)).trans q,nm⟩,⟨(j _ (E i ar)).trans z,bn⟩,⟨(j _ (E o ar)).trans m,ny⟩,⟨bo.of_block (Uj.block b ba),nk⟩⟩
   have ac:=s.size;have j:=O F;have Uj:=O s;clear F s X hy cy
   gi_wp2
   refine⟨⟨⟨j _ (C _ (.inl T) Y),j _ (C _ (.inr T) Y)⟩,Uj,λk a=>j k (Vz k a (We k a))⟩,T,
    ⟨y,by rw[<-qO];exact ZA,λk a _=>Vz k a (We k a),λk a=>qz (YY k a) ac,λk a _=>C k a Y,E⟩⟩
  case stop0=>
   rintro D c v Ψ m rfl -⟨rfl,br⟩ r;obtain⟨y,B,-,-,-,-⟩:=br
   gi_wp2
   refine⟨by simp,.inl ⟨_,_,T,qD r,?_⟩⟩;exact⟨_,nv T _ _ _,⟨_,T⟩,.inr ⟨_,y,trivial,ay.keep B (bL.putObj _ r T Y)⟩⟩
  rintro D xs Ψ m rfl rfl ⟨aa,⟨bs,nm⟩,⟨bu,bO⟩,⟨bv,ny⟩,⟨ad,nk⟩⟩ r
  gi_wp2_with fail
  obtain⟨y,B,g2,P,g4,Q⟩:=aa;have bT:=(jQ.1 r).1;obtain⟨z,q⟩:=J t.heap.size;rw[<-q]at r bT⊢;have HO:jm (mV [g,i,o,z] Uv (df f u (2*n)) m):=O ⟨y,by simpa using B,P,λk a=>by
   simp only[List.mem_cons,List.not_mem_nil,or_false]at a
   rcases a with h|h|h|h
   ·exact Q k (by simp[h])
   ·exact Q k (by simp[h])
   ·exact Q k (by simp[h])
   exact g4 k (.inl (h.trans q)) Y⟩
  have bp:=O r;have V:=O ad;have b6:W.heap.size<=z:=Y;have b7:b<z:=Y;have YX:W.heap.size<=m.heap.size:=Y;clear B g2 P g4 Q r M S U ad nm bO ny nk bC bI bK bM bh bi bk bl au bf bg bm bB ax q cm bA;have M:=bs;have S:=bu;have U:=bv;clear bs bu bv;rw[roundsIn_succ];have cm:=M.cell;have bA:=λW=>PE (2*(n:N)) (2*(n:N)+1) W
  gi_wp2_with fail
  refine⟨trivial,T,(callsIn_wide.2 (zy _ _ _)).mono ?_⟩;rintro e w' ⟨rfl,rfl⟩
  gi_wp2_with fail
  obtain⟨q,ad⟩:=J ((m.alloc (jj #[.map (A b)] 183)).alloc (jj #[ja jg (2*(n:N)+1)] 3));have bf:jD q m.heap.size 183 (.map (A b)):=by rw[ad];exact(Boxed.new m _ _).alloc _
  have a1:((2*n+1:I):N)=2*(n:N)+1:=by simp
  have bg:jD q (m.heap.size+1) 3 (ja jg ((2*n+1:I):N)):=by
   have h:=Boxed.new (m.alloc (jj #[.map (A b)] 183)) 3 (ja jg (2*(n:N)+1));rw[j8]at h;rw[a1,ad];exact h
  have bB:m.heap.size+2=q.heap.size:=by rw[ad];simp
  have a2:bL W.heap.size (λk=>k=m.heap.size\/k=m.heap.size+1) m q:=by
   rw[ad];refine⟨T,T,T,by simp;omega,λk a _=>.inl ?_⟩;rw[jH _ _ _ (by simp;omega),jH _ _ _ a]
  have H:jn m m q:=by rw[ad];exact((jM _ m).alloc (jA _) _).alloc ar _
  have bh:lR q.heap.size [g,i,o,z] (df f u (2*n)) Uv [] (λk=>k=m.heap.size\/k=m.heap.size+1) q:=HO.wide HJ a2 (by rintro k (rfl|rfl)<;>omega) (jA _);have bi:jD q g 183 (.map (A b)):=(H.block _ M.lt).trans M;have bk:jD q i 3 (ja jg (n:N)):=(H.block _ S.lt).trans S;have bl:jD q o 164 (.func (.yield l) #[] #[]):=(H.block _ U.lt).trans U;have au:aY (dP jN) 3 q b R f:=V.below H V.lt;have bC:=V.lt;have bI:=M.lt;have bK:=S.lt;have bM:=U.lt;have bO:q.heap[z]?=A (.deferred (A [])):=(H.block _ (jQ.1 bp).1).trans bp;have b8:=(jQ.1 bp).1;have ax:W.heap.size<=q.heap.size:=Y;have a3:=Vo 1 G m.heap.size (m.heap.size+1) n₀ q au ba bf bg Y;have bm:=O a3;rw[<-ad];clear a3 a1 ad a2 H HO V bp;refine FL (n:=0) (gf:=241) (lb:=#[jG (A ⟨m,0,jd⟩),jG (A ⟨m.heap.size+1,0,jd⟩)]) T (enters_of qU af T)
   bm Y (λ_=>rfl) (by rintro k (rfl|rfl)<;>omega)
   (λv Ψ W=>lR q.heap.size [g,i,o,z] (df f u (2*n)) Uv v Ψ W/\(jD W g 183 (.map (A b))/\¬Ψ g)/\(jD W i 3 (ja jg (n:N))/\¬Ψ i)/\(jD W o 164 (.func (.yield l) #[] #[])/\¬Ψ o)/\(aY (dP jN) 3 W b R f/\¬Ψ b)/\(W.heap[z]?=A (.deferred (A []))/\¬Ψ z))
   (λc v Ψ W=>c=.ret/\lR q.heap.size [g,i,o,z] (df f u (2*n)) Jx v Ψ W/\(W.heap[z]?=A (.deferred (A []))/\¬Ψ z))
   ((vQ (df f u (2*n)) (HJ.later ax)).and ((iQ _ _ _ (λ_=>_)).and ((iQ _ _ _ (λ_=>_)).and ((iQ _ _ _ (λ_=>_)).and ((FE _ _ _ _ _ Y).and (Hs _ _ _ Y))))))
   (λc=>(fk _ _).and ((vQ (df f u (2*n)) (ay.later ax)).and (Hs _ _ _ Y)))
   ⟨bh,⟨bi,by omega⟩,⟨bk,by omega⟩,⟨bl,by omega⟩,⟨au,by omega⟩,bO,by omega⟩
   (λx a4 _ _=>a4={tmps:=#[.func (.yield l) #[] #[],jG (A ⟨g,0,jd⟩),jG (A ⟨i,0,jd⟩),jG (A ⟨o,0,jd⟩),ja jg 0,.bool jz,jB,ja jg (2*(n:N)+1),ja jg x,jL #[ja jg 0,.bool jz],.map (A b),ja jg (n:N),jL #[ja jg 0,.bool jz],ja jg 0,.bool jz,.bool jz,jB,jB,jB,ja jg (n:N),.bool jz,ja jg (n:N),ja jg (2*(n:N)),ja jg (n:N),ja jg (2*(n:N)),ja jg (2*(n:N)+1),jS #[ja jg (2*(n:N)),ja jg (2*(n:N)+1)],ja jg 1,.bool jf,ja jg (2*(n:N)+1),.map (A b),ja jg (2*(n:N)+1),.func (.func 241) #[] #[jG (A ⟨m,0,jd⟩),jG (A ⟨m.heap.size+1,0,jd⟩)],ja jg x,jB,jB,jB,jB,ja jg 1],defers:=[]}) (fk _ _)
   ?assign1 ?body1 ?done1 ?stop1
  case assign1=>
   intro l2 v x Ψ a5 K hI _ r
   gi_wp2
   exact r _ _ (jM _ _) hI T
  case body1=>
   rintro l2 v x Ψ a4 a5 ⟨aa,⟨ad,nm⟩,⟨a1,bn⟩,⟨V,ny⟩,⟨bo,nk⟩,H,K⟩ rfl hV Ye bN bq;obtain⟨y,B,g2,P,g4,Q⟩:=aa;obtain⟨fn,tmps,assign,body,hy,X⟩:=HY ((df f u (2*n))++v) x y a5 B P (by rw[Zj];rw[qO];exact(List.prefix_append_right_inj _).2 hV);have cy:=V.cell;have Vz:=O g2;have YY:=O P;have C:=O g4;have E:=O Q;have We:=O Ye;clear B g2 P g4 Q Ye hV bq
   gi_wp2
   refine⟨T,RoundIn.mono X ?_⟩;rintro e W3 (⟨rfl,YU,s,F⟩|⟨rfl,ZA,s,F⟩)
   ·have ac:=s.size
    have j:=O F;have Uj:=O s;clear F s X hy cy
    gi_wp2
    refine⟨⟨⟨j _ (C _ (.inl T) Y),j _ (C _ (.inr T) Y)⟩,Uj,λk a=>j k (Vz k a (We k a))⟩,
     ⟨y,by rw[<-qO];exact YU,λk a _=>Vz k a (We k a),λk a=>qz (YY k a) ac,λk a _=>C k a Y,E⟩,
     ⟨(j _ (E g ar)).trans ad,nm⟩,⟨(j _ (E i ar)).trans a1,bn⟩,⟨(j _ (E o ar)).trans V,ny⟩,⟨bo.of_block (Uj.block b ba),nk⟩,(j _ (E z ar)).trans H,K⟩
   have ac:=s.size;have j:=O F;have Uj:=O s;clear F s X hy cy
   gi_wp2
   refine⟨⟨⟨j _ (C _ (.inl T) Y),j _ (C _ (.inr T) Y)⟩,Uj,λk a=>j k (Vz k a (We k a))⟩,T,
    ⟨⟨y,by rw[<-qO];exact ZA,λk a _=>Vz k a (We k a),λk a=>qz (YY k a) ac,λk a _=>C k a Y,E⟩,(j _ (E z ar)).trans H,K⟩⟩
  case stop1=>
   rintro D c v Ψ x rfl -⟨rfl,br,H,K⟩ r;obtain⟨y,B,-,-,-,-⟩:=br
   gi_wp2
   refine⟨by simp,.inl ⟨_,_,T,qD r,?_⟩⟩;have j:(x.putObj q.heap.size (.deferred jd)).heap[z]?=A (.deferred (A [])):=(ob Y).trans H;refine⟨by simp,.inl ⟨_,_,T,qD j,?_⟩⟩;exact⟨_,nv T _ _ _,⟨_,T⟩,.inr ⟨_,y,trivial,ay.keep (ay.keep B (bL.putObj _ r T Y)) (bL.putObj _ j T Y)⟩⟩
  rintro D xs Ψ x rfl rfl ⟨aa,⟨bs,nm⟩,⟨bu,bn⟩,⟨bv,ny⟩,⟨bo,nk⟩,H,K⟩ r;obtain⟨y,B,-,-,-,-⟩:=aa
  gi_wp2_with fail
  rw[roundsIn_succ]
  gi_wp2
  have j:(x.putObj q.heap.size (.deferred jd)).heap[z]?=A (.deferred (A [])):=(ob Y).trans H;refine⟨by simp,.inl ⟨_,_,T,qD r,?_⟩⟩;refine⟨by simp,.inl ⟨_,_,T,qD j,?_⟩⟩;exact⟨_,nv T _ _ _,⟨_,T⟩,.inl ⟨_,y,Zj.symm,HJ.keep (HJ.keep B (bL.putObj _ r T Y)) (bL.putObj _ j T Y)⟩⟩
 rw[hf]at ZD;have bw:(Instr.lookup 183 (.map (A b)) (ja jg (n:N)) jf).run ji (W.alloc (jj #[.func (.yield l) #[] #[]] 164))=.ok (jL #[ja jg p,.bool jf]) (W.alloc (jj #[.func (.yield l) #[] #[]] 164)):=ZD;have hs:=SG (f:=f) (h:=h) (n:=n) (by rw[hf];rfl);have a:Uv [] (λk=>k=g\/k=i) (W.alloc (jj #[.func (.yield l) #[] #[]] 164)):=hJ.keep h0 (bL.alloc _ _ _ _);obtain⟨fn,tmps,assign,body,hy,X⟩:=hY [] (n:N) _ _ a (by rintro k (rfl|rfl);have:=bc.lt;simp;omega;have:=bd.lt;simp;omega) (by rw[hs];exact List.prefix_refl _);have c:=O hs;clear ZD hs hz a6 bb hJ Yz hY h0 hf a;refine(qC (n:=0)).1 ?_;refine rn qU T trivial ?_ T;simp only[ntmps241,jW,oj,qo,qs,qt,qu,qv,qw,qx,p6,qy]
 gi_wp2
 refine⟨T,X.mono ?_⟩;rintro e W3 (⟨rfl,YU,s,F⟩|⟨rfl,ZA,s,F⟩)
 ·gi_wp2
  refine o1 (nv T _ _ _) T ?_;exact⟨⟨_,T⟩,.inl ⟨_,_,c.symm,YU⟩⟩
 gi_wp2
 refine o1 (nv T _ _ _) T ?_;exact⟨⟨_,T⟩,.inr ⟨_,_,trivial,ZA⟩⟩
theorem AL(f:N->jE N)(b d:I):∀h n,512<=n*2^h->n*2^h<1024->sE f b d h n
 |0,n,c,a=>F8 f b d 0 n c a Y Y (λh=>by omega) (λ_=>rfl)
 |h+1,n,c,a=>by
  rw[qh]at c a;have e:2*n*2^h=n*(2^h*2):=by rw[lw 2 n,sn,lw 2]
  have i:(2*n+1)*2^h=n*(2^h*2)+2^h:=by rw[Nat.add_mul,Nat.one_mul,e]
  have m:1<=2^h:=xS;have j:1<=n:=by
   rcases qg n with g|g
   ·rw[g]at c;omega
   exact g
  have o:2^h*2<=n*(2^h*2):=Nat.le_mul_of_pos_left _ j;have p:n<512:=by
   have:n*2<=n*(2^h*2):=Nat.mul_le_mul_left _ Y;omega
  have k:n*(2^h*2)+2^h<1024:=by
   have:n*(2^h*2)+(2^h*2)<=1024:=by
    have r:h<=9:=by
     rcases qH 9 h with g|g
     ·have:2^10<=2^h:=sx G g
      omega
     exact g
    have g:2^h*2∣1024:=by
     rw[<-qh,show 1024=2^10 by decide];exact Nat.pow_dvd_pow _ Y
    obtain⟨q,l⟩:=g;rw[l]at a⊢;have:n<q:=by
     rw[lw]at a;exact Nat.lt_of_mul_lt_mul_left a
    rw[<-Nat.succ_mul,lw (2^h*2) q];exact Nat.mul_le_mul_right _ this
   omega
  exact F8 f b d (h+1) n (by rw[qh];exact c) (by rw[qh];exact a) j Y
   (λ_=>⟨h,rfl,AL f b d h (2*n) (by rw[e];exact c) (by rw[e];exact a),AL f b d h (2*n+1) (by rw[i];omega) (by rw[i];exact k)⟩) (λh=>by omega)
end
section
open Go.Shelf
def Tryzx.lays189_ren:Go.Shelf.Ren:=⟨fun|189=>165|125=>131|257=>225|128=>180|129=>181|294=>252|295=>253|296=>254|297=>255|298=>256|299=>257|216=>258|300=>259|301=>260|328=>266|329=>228|330=>229|331=>267|332=>268|215=>132|343=>269|n=>n,fun|28=>38|3=>3|46=>225|0=>0|51=>281|53=>248|4=>4|183=>275|182=>274|131=>67|5=>5|9=>9|218=>322|222=>326|228=>355|229=>356|n=>n,fun|n=>n⟩
theorem Tryzx.lays189:Go.Proofs.Lays.n189 ji Tryzx.lays189_ren:={
 mixed:=by kernel_rfl
 f125:=func131.trans (jv A af)
 f128:=func180.trans (jv A af)
 f129:=func181.trans (jv A af)
 f189:=func165.trans (jv A af)
 f215:=func132.trans (jv A af)
 f216:=func258.trans (jv A af)
 f257:=func225.trans (jv A af)
 f294:=func252.trans (jv A af)
 f295:=func253.trans (jv A af)
 f296:=func254.trans (jv A af)
 f297:=func255.trans (jv A af)
 f298:=func256.trans (jv A af)
 f299:=func257.trans (jv A af)
 f300:=func259.trans (jv A af)
 f301:=func260.trans (jv A af)
 f328:=func266.trans (jv A af)
 f329:=func228.trans (jv A af)
 f330:=func229.trans (jv A af)
 f331:=func267.trans (jv A af)
 f332:=func268.trans (jv A af)
 f343:=func269.trans (jv A af)
 t0:=xn
 a0:=isAgg0
 z0:=sizeOf0
 v0:=zeroValue0
 t3:=jN
 a3:=isAgg3
 z3:=sizeOf3
 v3:=zeroValue3
 t4:=xo
 a4:=isAgg4
 z4:=sizeOf4
 v4:=zeroValue4
 t5:=qP
 a5:=isAgg5
 z5:=sizeOf5
 v5:=zeroValue5
 t9:=qA
 a9:=isAgg9
 z9:=sizeOf9
 v9:=zeroValue9
 t28:=xw
 a28:=isAgg38
 z28:=sizeOf38
 v28:=zeroValue38
 t46:=underlying225
 a46:=isAgg225
 z46:=sizeOf225
 v46:=zeroValue225
 t51:=underlying281
 a51:=isAgg281
 z51:=sizeOf281
 v51:=zeroValue281
 t53:=underlying248
 a53:=isAgg248
 z53:=sizeOf248
 v53:=zeroValue248
 t131:=underlying67
 a131:=isAgg67
 z131:=sizeOf67
 v131:=zeroValue67
 t182:=underlying274
 a182:=isAgg274
 z182:=sizeOf274
 v182:=zeroValue274
 t183:=underlying275
 a183:=isAgg275
 z183:=sizeOf275
 v183:=zeroValue275
 t218:=underlying322
 a218:=isAgg322
 z218:=sizeOf322
 v218:=zeroValue322
 t222:=underlying326
 a222:=isAgg326
 z222:=sizeOf326
 v222:=zeroValue326
 t228:=underlying355
 a228:=isAgg355
 z228:=sizeOf355
 v228:=zeroValue355
 t229:=underlying356
 a229:=isAgg356
 z229:=sizeOf356
 v229:=zeroValue356}
open Go.Sort Go.RowKit in
theorem Tryzx.slices_Sort_int(a off c:I)(b:je N)(w:jc)(d:Holds (jb .i64) w a off b.toArray)(f:a<w.heap.size)(g:b.length<4611686018427387904):
 ju ji 165 #[jp (A ⟨a,off,jd⟩) b.length c] w λe w'=>
  e=js (jL #[])/\∃n os,w'=grow (putRow (jb .i64) (Sort.ahead w n) a off (b.mergeSort λx y=>decide (x<=y)).toArray) os:=Any.slices_Sort_int Tryzx.lays189 a off c b w d f g
def Tryzx.laysNm220_ren:Go.Shelf.Ren:=⟨fun|20=>166|n=>n,fun|22=>38|3=>3|4=>4|0=>0|n=>n,fun|n=>n⟩
theorem Tryzx.laysNm220:Go.Proofs.Lays2.n20 ji Tryzx.laysNm220_ren:={
 mixed:=by kernel_rfl
 f20:=func166.trans (jv A af)
 t0:=xn
 a0:=isAgg0
 z0:=sizeOf0
 v0:=zeroValue0
 t3:=jN
 a3:=isAgg3
 z3:=sizeOf3
 v3:=zeroValue3
 t4:=xo
 a4:=isAgg4
 z4:=sizeOf4
 v4:=zeroValue4
 t22:=xw
 a22:=isAgg38
 z22:=sizeOf38
 v22:=zeroValue38
 i3:=by kernel_rfl}
open Go.RowKit Go.Lib Go.Sort in
open Go.RowKit Go.Lib Go.Sort in
theorem Tryzx.slices_Compact_int(b off c:I)(a:je N)(w:jc)(d:Holds (jb .i64) w b off a.toArray)(f:a.length<=9223372036854775807)(g:a.length<=c):
 ju ji 166 #[jp (A ⟨b,off,jd⟩) a.length c] w λe w'=>e=js (jp (A ⟨b,off,jd⟩) (Lib.compact a).length c)/\∃q,w'=putRow (jb .i64) (Sort.ahead w q) b off (Lib.compact a++mz (a.length-(Lib.compact a).length) 0).toArray:=Any.slices_Compact_int Tryzx.laysNm220 b off c a w d f g
open Go.RowKit Go.Lib Go.Sort in
theorem Tryzx.slices_Compact_int_empty(a:jE jP)(b:I)(w:jc):
 ju ji 166 #[jp a 0 b] w λe w'=>e=js (jp a 0 b)/\w'=w:=Any.slices_Compact_int_empty Tryzx.laysNm220 a b w
open Go.RowKit Go.Sort in
theorem Tryzx.slices_Sort_int_none(p:jE jP)(a:I)(w:jc):
 ju ji 165 #[jp p 0 a] w λe w'=>e=js (jL #[])/\w'=w:=Any.slices_Sort_int_none Tryzx.lays189 p a w
end
section
open Go
theorem FZ(d:jt N)(g:∀i j,i<=j->j<d.size->d[i]!<=d[j]!):∀m,m<=d.size->
 (Lib.compactUpTo d m).Pairwise (·<·)/\(∀x∈Lib.compactUpTo d m,∃j,j<m/\x=d[j]!)/\∀j,j<m->d[j]!∈Lib.compactUpTo d m
 |0,_=>by simp[Lib.compactUpTo]
 |m+1,r=>by
  obtain⟨o,i,k⟩:=FZ d g m Y;rw[Lib.compactUpTo_succ]
  by_cases f:m=0\/d[m]!≠d[m-1]!
  ·have l:Lib.keeps d m=jf:=by simp only[Lib.keeps,decide_eq_true_eq];exact f
   rw[l,o8 T];refine⟨List.pairwise_append.2 ⟨o,by simp,λa q b p=>?_⟩,λx n=>?_,λj c=>?_⟩
   ·simp only[xT]at p
    subst p;obtain⟨j,c,rfl⟩:=i a q
    rcases f with e|e
    ·omega
    have h:=g j (m-1) Y Y;have s:=g (m-1) m Y Y;omega
   ·rcases xl.1 n with h|h
    ·obtain⟨j,c,e⟩:=i x h
     exact⟨j,by omega,e⟩
    simp only[xT]at h;exact⟨m,by omega,h⟩
   rcases xm (xU c)with h|rfl
   ·exact xl.2 (.inl (k j h))
   exact xl.2 (.inr ar)
  have l:Lib.keeps d m=jz:=by simp only[Lib.keeps,decide_eq_false_iff_not];exact f
  rw[l,j5 G,sv];refine⟨o,λx n=>?_,λj c=>?_⟩
  ·obtain⟨j,c,e⟩:=i x n
   exact⟨j,by omega,e⟩
  rcases xm (xU c)with h|rfl
  ·exact k j h
  have:j≠0:=λh=>f (.inl h)
  have e:d[j]! =d[j-1]! :=by
   rcases Classical.em (d[j]! =d[j-1]!)with h|h
   ·exact h
   exact qj (.inr h) f
  rw[e];exact k (j-1) Y
theorem GC(xs:je N)(h:xs.Pairwise (·<=·)):(Lib.compact xs).Pairwise (·<·)/\∀x,x∈Lib.compact xs↔x∈xs:=by
 have c:∀i j,i<=j->j<xs.toArray.size->xs.toArray[i]!<=xs.toArray[j]! :=λi j d a=>by
  have b:j<xs.length:=ak a
  rcases xm d with g|rfl
  ·have:=List.pairwise_iff_getElem.1 h i j Y b g
   simpa [getElem!_pos,show i<xs.length by omega,b]using this
  exact Int.le_refl _
 obtain⟨f,g,k⟩:=FZ xs.toArray c xs.length ar;refine⟨f,λx=>⟨λb=>?_,λb=>?_⟩⟩
 ·obtain⟨j,a,rfl⟩:=g x b
  simp[getElem!_pos,a]
 obtain⟨j,a,rfl⟩:=List.getElem_of_mem b;have:=k j a;have e:xs.toArray[j]! =xs[j]:=by simp[getElem!_pos,a]
 rw[e]at this;exact this
theorem Az{l m:je N}(c:l.Pairwise (·<·))(d:m.Pairwise (·<·))(h:∀x,x∈l↔x∈m):l=m:=by
 have e:l.Nodup:=c.imp (λh=>by omega);have f:m.Nodup:=d.imp (λh=>by omega);exact List.Perm.eq_of_pairwise (le:=(·<·)) (λa b _ _ g i=>by omega) c d ((List.perm_ext_iff_of_nodup e f).2 h)
theorem w9(l:je N):(l.mergeSort leI).Pairwise (·<=·):=by
 have d:∀a b c:N,leI a b=jf->leI b c=jf->leI a c=jf:=λa b c f g=>by simp only[leI,decide_eq_true_eq]at*;omega
 have e:∀a b:N,(leI a b||leI b a)=jf:=λa b=>by simp only[leI,qW,decide_eq_true_eq];omega
 exact(List.pairwise_mergeSort d e l).imp (λh=>by simpa [leI]using h)
theorem uN(l:je N)(x:N):x∈l.mergeSort leI↔x∈l:=(List.mergeSort_perm l leI).mem_iff
def gC(t:je (N×N)):je N:=(t.filter λx=>decide (512<=x.1)&&decide (x.1<=1023)).map λx=>x.1-512
def cr(t:je (N×N)):je N:=Lib.compact ((gC t).mergeSort leI)
theorem pH(t:je (N×N)):(cr t).Pairwise (·<·):=(GC _ (w9 _)).1
theorem oA(t:je (N×N))(d:N):d∈cr t↔0<=d/\d<512/\∃x∈t,x.1=512+d:=by
 unfold cr;rw[(GC _ (w9 _)).2,uN];unfold gC;simp only[qb,List.mem_filter,jZ,decide_eq_true_eq]
 constructor
 ·rintro⟨x,⟨a,b,c⟩,rfl⟩
  exact⟨by omega,by omega,x,a,by omega⟩
 rintro⟨b,c,x,a,e⟩;exact⟨x,⟨a,by omega,by omega⟩,by omega⟩
end
end Go.Proofs.YthonckffmkefdaaGreatDoor
