/- Contracts of functions that the law reaches, part 2 of 7; no condition. -/
import Derived.Shelf.Small.Bits
import Derived.Shelf.Small.Wraps
import Derived.Shelf.Sort.Plain
import Derived.Shelf.Bytes.WriteAt
import Derived.Shelf.Bits.Mul64
import Derived.Shelf.Slices.CompactI
import Derived.Shelf.Slices.In.SortNone
import Derived.Shelf.Bytes.SlEqualAll
import Derived.BigGuardPart
import Derived.Deep.CutBlock
import Derived.Deep.DeepCutAuto
import Derived.RangeFuncNested
import Derived.Deep.RegionHeld3
import Derived.RangeFuncBound
import Derived.Deep.AppendLies
import Derived.Laws.AppendOwnNone
import Derived.Laws.CopyOwn
import Derived.Lib.AppendIntMem
import Derived.Great.Walk
import Derived.Deep.WholeRow
import Derived.StillTail
import Derived.Lib.ConvBytes
import Derived.Maps.OwnIn
import Derived.Lib.SlKeysI
import Derived.Test.YtdjkajodkjfjlaaGreatDoorZJ1
namespace Go.Proofs.YtdjkajodkjfjlaaGreatDoor
set_option maxHeartbeats 64000000
set_option maxRecDepth 100000
set_option linter.unusedVariables false
set_option linter.unusedSimpArgs false
set_option linter.unusedSectionVars false
open Go.RowKit
open Go.Proofs.Tryz
open _root_ renaming Nat->I,rfl->N,Int->T,List->je,BitVec->jm,Array->jt,Bool->jv,Option->jC,congrArg->jD,if_neg->jS,if_pos->jU,absurd->ol
open Go.Value renaming int->A
open _root_.Option renaming some->ja,none->jd,some->wq,map_some->xo,bind_some->xp,eq_none_or_eq_some->xR
open Go.Value renaming int->jb,oneCell'->qV,ownBlock->xh
open Go renaming World->jc,Value->jh,TypeId->jr,Calls->js,Oper->jz,Boxed->jB,undef->jE,Program->jI,wpOp->jM,Addr->jR,Exit->jV,execOp->jY,maxLen->j0,Code->j4,wpOp_mono->j5,Operand->lm,yielded->lo,results_none->mb,wpList->ms,bodyPost_ret->nz,info_parts->oo,wp_region_lit->qb,wpList_load_row->qc,wpList_plain->qd,KeepsFrom->qm,callsIn_wide->qn,run_takeDeferred->qo,callFunc->qz,bits_or_u64_nat->qZ,callsIn_of_wp->q4,wp_store_row->q5,results_cell_row->q6,wpList_append_own->q8,bodyPost_end->xq,callsIn_of_wp_marks->xr,run_underlying->xt,run_sliceAt_slice->xw
open Go.IntKind renaming i64->jf,u64->jk,u32->jp,u8->jF
open _root_.Bool renaming true->jg,false->jw,and_eq_true->j1,or_eq_true->rv
open Go.Proofs.Tryz renaming prog->ji
open Go.Obj renaming cells->jj
open Go.RowKit renaming Hid->jl,Below->jn
open Go.IntKind renaming u32->jo,u64->jJ,wrap_u64->n0
open Go.Ending renaming returned->jq
open Go.Value renaming slice->ju,pointer->jG,tuple->jN,agg->jT,string->qt
open Go.Proofs renaming intOf->jy
open _root_.Nat renaming le_refl->jA,mod_eq_of_lt->jX,mul_comm->j6,zero_add->kn,mul_mod->lr,pow_succ->mF,le_trans->oi,eq_zero_or_pos->pz,zero_le->p6,reduceAdd->qf,reduceSub->qg,lt_of_lt_of_le->ql,lt_or_ge->qu,le_of_eq->qA,mod_lt->qC,mul_assoc->qD,mod_mod->qE,two_mul->qM,mod_two_eq_zero_or_one->qN,add_mul->qO,add_mod->qP,shiftLeft_eq->qT,add_assoc->qW,two_pow_add_eq_or_of_lt->q9,mul_add_mod->ri,zero_mul->sg,pow_add->sh,mul_one->sn,one_mul->sq,pow_le_pow_right->tb,mul_add->uy,shiftRight_eq_div_pow->xa,div_le_self->xB,lt_of_le_of_lt->xG,not_lt_zero->xM,mul_le_mul_right->xN,one_le_two_pow->xS
open Go.RowKit.Below renaming heap_alloc->jH,refl->jK,heap_setCell->ow,setCell->tx
open Go.World renaming alloc_heap_new->jL,cell?->j8,size_alloc->km,putObj_heap_other->mz,putObj->qL,grownBy->qQ,setCell->xg,ownsRow_nil->xj,putObj_heap_same->xx,frozen?->xI
open _root_.Array renaming getElem?_eq_some_iff->jO,all_eq_true_iff_forall_mem->o4,replicate->pa,replicate_succ->qh,replicate_zero->qi,getD_eq_getD_getElem?->qB,getElem?_eq_none->rn,getElem?_modify->xf,setIfInBounds_comm->xy
open Go.Proofs.Tryz renaming underlying3->jP,underlying50->jQ,func241->j9,ntmps241->kl,underlying23->qs,underlying9->qw,func232->qx,ntmps232->qy,underlying325->qI,underlying167->qJ,func213->qK,underlying5->qY
open _root_.List renaming getD->jW,size_toArray->jZ,cons_append->j7,length_map->kw,length_cons->lw,nil_append->mT,getElem?_eq_some_iff->m0,replicate->nn,append_assoc->oj,mem_map->qa,length_nil->qe,push_toArray->qj,append_toArray->qk,length_append->qv,map_cons->qS,set->qU,getElem?_eq_getElem->qX,append_nil->sx,eq_nil_of_length_eq_zero->wi,map_toArray->wt,map_nil->wx,map_map->xi,getElem?_map->xm,all_eq_true->xz,mem_range->xA,getD_eq_getElem?_getD->xJ,flatten_append->xK,map_append->xL,take_left'->xO,drop_left'->xP,take_succ_eq_append_getElem->xQ
open _root_.BitVec renaming ofNat->j3,toNat_ofNat->qG,toNat_setWidth->qH,toNat_ushiftRight->w9,toNat_shiftLeft->xd,ofInt->xC,toNat_xor->xD,toNat_or->xE,toNat_add->xF,rotateLeft_def->xH
open _root_.Int renaming toNat_natCast->qF,eq_ofNat_of_zero_le->sv
variable{B g:I}{e:I->Prop}{H:Type}{c:af}{P:jI}{W a w w':jc}{b:je (jm 32)}{h:je I}{t:jr}
section
open Go.Shelf
def Tryzx.laysM180_ren:Go.Shelf.Ren:=⟨fun|180=>115|251=>172|252=>173|181=>219|184=>220|290=>221|324=>257|n=>n,fun|130=>247|37=>50|3=>3|75=>182|0=>0|93=>178|91=>176|131=>96|4=>4|20=>20|5=>5|80=>275|9=>9|n=>n,fun|14=>2|n=>n⟩
theorem Tryzx.laysM180:Go.Proofs.LaysM.n180 ji Tryzx.laysM180_ren:={
 mixed:=by kernel_rfl
 f180:=func115.trans (jD ja ag)
 f181:=func219.trans (jD ja ag)
 f184:=func220.trans (jD ja ag)
 f251:=func172.trans (jD ja ag)
 f252:=func173.trans (jD ja ag)
 f290:=func221.trans (jD ja ag)
 f324:=func257.trans (jD ja ag)
 t0:=underlying0
 a0:=isAgg0
 z0:=sizeOf0
 v0:=zeroValue0
 t3:=jP
 a3:=isAgg3
 z3:=sizeOf3
 v3:=zeroValue3
 t4:=underlying4
 a4:=isAgg4
 z4:=sizeOf4
 v4:=zeroValue4
 t20:=underlying20
 a20:=isAgg20
 z20:=sizeOf20
 v20:=zeroValue20
 t37:=jQ
 a37:=isAgg50
 z37:=sizeOf50
 v37:=zeroValue50
 t75:=underlying182
 a75:=isAgg182
 z75:=sizeOf182
 v75:=zeroValue182
 t91:=underlying176
 a91:=isAgg176
 z91:=sizeOf176
 v91:=zeroValue176
 t93:=underlying178
 a93:=isAgg178
 z93:=sizeOf178
 v93:=zeroValue178
 t130:=underlying247
 a130:=isAgg247
 z130:=sizeOf247
 v130:=zeroValue247
 t131:=underlying96
 a131:=isAgg96
 z131:=sizeOf96
 v131:=zeroValue96
 g14:=by kernel_rfl
 t5:=qY
 a5:=isAgg5
 z5:=sizeOf5
 v5:=zeroValue5
 t9:=qw
 a9:=isAgg9
 z9:=sizeOf9
 v9:=zeroValue9
 t80:=underlying275
 a80:=isAgg275
 z80:=sizeOf275
 v80:=zeroValue275
 i0:=by kernel_rfl
 i3:=by kernel_rfl
 i4:=by kernel_rfl
 i5:=by kernel_rfl
 i9:=by kernel_rfl
 i20:=by kernel_rfl
 i37:=by kernel_rfl
 i75:=by kernel_rfl
 i80:=by kernel_rfl
 i91:=by kernel_rfl
 i93:=by kernel_rfl
 i130:=by kernel_rfl
 i131:=by kernel_rfl
 m14:=by kernel_rfl}
open Go.RowKit in
theorem Tryz.Buffer_Write_at(f:jr)(R:I->jC jh)(B b q:I)(d cs:je jh)(a:jR)(n c:I)(w:jc)(h:LibA.IsBuffer f R 5 B b q d w)(g:B<=w.heap.size)(i:∀v∈d,v.oneCell'=jg)(k:cs.length=n)(l:a.block≠b)(m:∀j v,cs[j]?=ja v->w.cell? (a.add j)=ja v)(j:∀v∈cs,v.oneCell'=jg)(o:d.length+n<=140737488355328):
 js ji 115 #[jG (ja ⟨b,q,jd⟩),ju (ja a) n c] w λe w'=>e=jq (jN #[A jf n,.nilIface])/\LibA.IsBuffer f R 5 B b q (d++cs) w'/\jn B w w'/\Lib.OthersKept 5 (ja b) w w':=Any.Buffer_Write_at Tryzx.laysM180 f R B b q d cs a n c w h g i k l m j o
end
theorem oM(a:I)(b:a<18446744073709551616):bits .and .u64 (a:T) 4294967295=((a%4294967296:I):T):=by
 have h:=bits_and_u64_nat a 4294967295 b Y;have e:a&&&4294967295=a%4294967296:=Nat.and_two_pow_sub_one_eq_mod a 32;rw[e]at h;exact h
theorem Rn(a:I):(a:T)/4294967296=((a/4294967296:I):T):=Y
theorem Pv(a b:I):(a:T)*(b:T)=((a*b:I):T):=(Int.natCast_mul a b).symm
theorem KM(a b:I):(a:T)+(b:T)=((a+b:I):T):=(Int.natCast_add a b).symm
theorem mM(a:I)(b:a<18446744073709551616):jJ.wrap (a:T)=(a:T):=by rw[n0];omega
theorem IL(a:I):jJ.wrap (a:T)=((a%18446744073709551616:I):T):=by rw[n0];omega
theorem Al(x y:I)(c:x<18446744073709551616)(d:y<18446744073709551616)(w:jc):
 js ji 231 #[A jk x,A jk y] w λe w'=>e=jq (jN #[A jk ((x*y/18446744073709551616:I):T),A jk ((x*y%18446744073709551616:I):T)])/\w=w':=by
 obtain⟨g,f,h,i⟩:=Lib.mul64_hi x y c d;have o:=Lib.half_mul_le (a:=x/4294967296) (b:=y/4294967296) Y Y;have p:=Lib.half_mul_le (a:=x/4294967296) (b:=y%4294967296) Y Y;have q:=Lib.half_mul_le (a:=x%4294967296) (b:=y/4294967296) Y Y;have j:x/4294967296*(y/4294967296)<18446744073709551616:=Y;have k:x/4294967296*(y%4294967296)<18446744073709551616:=Y;have l:x%4294967296*(y/4294967296)<18446744073709551616:=Y;have m:x/4294967296*(y/4294967296)+(x/4294967296*(y%4294967296)+x%4294967296*(y%4294967296)/4294967296)/4294967296<18446744073709551616:=Y;have n:x/4294967296*(y/4294967296)+(x/4294967296*(y%4294967296)+x%4294967296*(y%4294967296)/4294967296)/4294967296+((x/4294967296*(y%4294967296)+x%4294967296*(y%4294967296)/4294967296)%4294967296+x%4294967296*(y/4294967296))/4294967296<18446744073709551616:=Y
 go_enter func231,ntmps231
 go_wp2
 simp only[oM x c,oM y d,Rn,Pv,KM,mM _ g,mM _ k,mM _ f,oM _ f,mM _ l,mM _ h,mM _ j,mM _ m,mM _ n,IL (x*y)];rw[i];go_ret2;exact⟨N,N⟩
theorem sy(w:jc):js ji 261 #[A jk 4611686018427377339] w λe w'=>e=jq (A jf 2)/\w=w':=by
 have a:=λw=>pP 4611686018427377339 G G w
 have e:bitLen (4611686018427377339:T).toNat=62:=by decide+kernel
 rw[e]at a
 go_enter func261,ntmps261
 go_wp2_with (go_at_call 104;refine(a _).mono ?_;rintro e w' ⟨rfl,rfl⟩)
 go_ret;exact⟨N,N⟩
theorem gB(q r a d:I)(b:q*4294967295+r=a)(c:a*4294967296+d<q*18446744073709509356)(e:r=0):(q-1)*4294967295+(r+4294967295)=a/\a*4294967296+d<(q-1+1)*18446744073709509356:=Y
theorem gs(q r a d:I)(b:q*4294967295+r=a)(c:a<18446744073709509356)(e:a*4294967296+d<q*18446744073709509356)(f:¬r=0)(g:q<=4294967297):(q-1)*18446744073709509356<=a*4294967296+d/\a*4294967296+d<(q-1+1)*18446744073709509356:=Y
theorem mq(q r a d:I)(b:d<=4294967295)(c:a<18446744073709509356)(e:4294967296<=q):a*4294967296+d<q*18446744073709509356:=Y
theorem mB(q r a d:I)(b:q*4294967295+r=a)(c:4294967296*r+d<q*4294925036):a*4294967296+d<q*18446744073709509356:=Y
theorem mH(q r a d:I)(b:q*4294967295+r=a)(c:¬4294967296*r+d<q*4294925036):q*18446744073709509356<=a*4294967296+d:=Y
theorem mr(a d:I)(b:d<=4294967295)(c:a<18446744073709509356):a/4294967295*4294967295+a%4294967295=a/\a*4294967296+d<(a/4294967295+1)*18446744073709509356:=Y
theorem t_v(a d k v:I)(b:k*18446744073709509356<=a*4294967296+d)(c:a*4294967296+d<(k+1)*18446744073709509356)(e:v=a*4294967296+d-k*18446744073709509356):v<18446744073709509356/\v+k*18446744073709509356=a*4294967296+d:=Y
theorem mg(v q r:I)(a:v<18446744073709509356)(b:q=v/4294967295)(c:r=v%4294967295):
 (v:T)/4294967295=(q:T)/\(v:T)-(q:T)*4294967295=(r:T)/\q<=4294967297/\(q:T)*4294967295<=(v:T)/\r<=4294967294:=Y
theorem t_w(a d k v:I)(b:v+k*18446744073709509356=a*4294967296+d)(c:v<18446744073709509356):
 jJ.wrap (jJ.wrap (jJ.wrap ((a:T)*4294967296)+(d:T))-jJ.wrap ((k:T)*18446744073709509356))=(v:T):=by
 simp only[n0];omega
theorem rk(c b d l e a k m v z:I)(s:b<18446744073709551616)(t:c<4611686018427377339)(f:d=4*c+b/4611686018427387904)(g:l=b*4%18446744073709551616)(h:e=l/4294967296)(i:a=l%4294967296)
 (j:v+k*18446744073709509356=d*4294967296+e) (n:m*18446744073709509356<=v*4294967296+a) (o:v*4294967296+a<(m+1)*18446744073709509356) (p:z=(v*4294967296+a-m*18446744073709509356)/4):
 c*18446744073709551616+b=(k*4294967296+m)*4611686018427377339+z/\z<4611686018427377339/\4*z+m*18446744073709509356=v*4294967296+a:=by
 have q:l=e*4294967296+a:=Y;have r:d*18446744073709551616+l=4*(c*18446744073709551616+b):=Y;clear f g h i;obtain⟨i,f⟩:=J (v*4294967296+a);obtain⟨B,g⟩:=J (c*18446744073709551616+b);obtain⟨K,h⟩:=J (k*4294967296);have u:i+K*18446744073709509356=4*B:=Y;rw[<-f]at n o p;rw[<-f,<-g,<-h];clear j q r f g h;omega
theorem div64_0(a:I)(b:a<18446744073709551616)(w:jc):
 js ji 232 #[A jk 0,A jk a,A jk 4611686018427377339] w λe w'=>
  ∃q:T,e=jq (jN #[A jk q,A jk ((a%4611686018427377339:I):T)])/\jn w w w':=by
 have c:(0:T)<=a:=Y
 go_enter qx,qy
 go_upto_region 6 with fail
 go_quiet (fail)
 go_wp2
 go_ret2;exact⟨_,N,N,N,N,jA _,λ_ _=>rfl⟩
theorem div64_1(f n:I)(h0:1<=f)(YG:f<4611686018427377339)(VY:n<18446744073709551616)(w:jc):
 js ji 232 #[A jk f,A jk n,A jk 4611686018427377339] w λe w'=>
  ∃q:T,e=jq (jN #[A jk q,A jk (((f*18446744073709551616+n)%4611686018427377339:I):T)])/\jn w w w':=by
 obtain⟨a,k⟩:∃a:I,a=4*f+n/4611686018427387904:=⟨_,N⟩;obtain⟨l,m⟩:∃l:I,l=n*4%18446744073709551616:=⟨_,N⟩;obtain⟨c,j⟩:∃c:I,c=l/4294967296:=⟨_,N⟩;obtain⟨d,s⟩:∃d:I,d=l%4294967296:=⟨_,N⟩;obtain⟨q,t⟩:∃q:I,q=a/4294967295:=⟨_,N⟩;obtain⟨r,u⟩:∃r:I,r=a%4294967295:=⟨_,N⟩;have v:bits .and .u64 18446744073709509356 4294967295=4294925036:=by decide+kernel
 have x:bits .or .u64 ((f:T)*4) ((n:T)/4611686018427387904)=(a:T):=by
  have g:(f:T)*4=((f*4:I):T):=Y;have o:(n:T)/4611686018427387904=((n/4611686018427387904:I):T):=Y;rw[g,o,qZ _ _ Y Y,k];have h:=q9 (i:=2) (b:=n/4611686018427387904) Y f;rw[show 2^2*f=f*4 by omega]at h;rw[<-h];omega
 have h:jJ.wrap ((n:T)*4)=(l:T):=by rw[n0,m];omega
 have y:(l:T)/4294967296=(c:T):=Y;have z:bits .and .u64 (l:T) 4294967295=(d:T):=by rw[oM l Y,s]
 have p:a<18446744073709509356:=Y;have V:c<=4294967295:=Y;have W:d<=4294967295:=Y;obtain⟨C,D,o,E,B⟩:=mg a q r p t u;have g:jl (q*4294967295+r=a/\a*4294967296+c<(q+1)*18446744073709509356):=O (by rw[t,u];exact mr a c V p);have HU:=O k;have HL:=O m;have Z5:=O j;have aa:=O s;clear k m j s t u;have ad:=O sy;have j:=ap ((4611686018427377339:T)<=(f:T));have k:=ap (f=0);have m:=ap ((f:T)=0)
 go_enter qx,qy
 go_upto_block 0 with(go_at_call 261;refine(ad _).mono ?_;rintro e w' ⟨rfl,rfl⟩)
 clear v x h y z C D j k m
 go_cut [15,16] (λm z H=>∃k:I,m=A jk k/\jl (k*18446744073709509356<=a*4294967296+c/\a*4294967296+c<(k+1)*18446744073709509356)/\w=H)
 case first=>
  go_wp2_with fail
  go_loop [15,16] (λm z=>∃q r:I,m=A jk q/\z=A jk r/\q<=4294967297/\r<=4294967295/\jl (q*4294967295+r=a/\a*4294967296+c<(q+1)*18446744073709509356)) (λm _=>(jy m).toNat)
  case atStart=>exact⟨q,r,N,N,o,by omega,g⟩
  clear o E B g;have K:=V;have p:=p;obtain⟨q,r,rfl,rfl,o,B,g⟩:=hrel;obtain⟨h,u⟩:=g.out
  by_cases M:4294967296<=q
  ·have P:=ao ((4294967296:T)<=(q:T))
   have s:=O (mq q r a c K p M);have t:=O h;clear h u g
   go_upto_region 20 with fail
   by_cases j:r=0
   ·have y:=ap ((4294967296:T)<=(r:T)+4294967295)
    go_wp2_with fail
    refine⟨⟨q-1,r+4294967295,?_,?_,by omega,by omega,O (gB q r _ _ t.out s j)⟩,?_⟩
    ·exact jD (jb .u64) Y
    ·exact jD (jb .u64) Y
    simp only[jy];omega
   have y:=ao ((4294967296:T)<=(r:T)+4294967295)
   go_wp2_with fail
   go_meet
   exact⟨q-1,jD (jb .u64) Y,O (gs q r _ _ t.out p s j o),N⟩
  have P:=ap ((4294967296:T)<=(q:T))
  by_cases x:4294967296*r+c<q*4294925036
  ·have Q:=ao ((4294967296:T)*(r:T)+(c:T)<(q:T)*4294925036)
   have al:1<=q:=Y;have s:=O (mB q r a c h x);have t:=O h;clear h u g x
   go_upto_region 20 with fail
   by_cases j:r=0
   ·have y:=ap ((4294967296:T)<=(r:T)+4294967295)
    go_wp2_with fail
    refine⟨⟨q-1,r+4294967295,?_,?_,by omega,by omega,O (gB q r _ _ t.out s j)⟩,?_⟩
    ·exact jD (jb .u64) Y
    ·exact jD (jb .u64) Y
    simp only[jy];omega
   have y:=ao ((4294967296:T)<=(r:T)+4294967295)
   go_wp2_with fail
   go_meet
   exact⟨q-1,jD (jb .u64) Y,O (gs q r _ _ t.out p s j o),N⟩
  have Q:=ap ((4294967296:T)*(r:T)+(c:T)<(q:T)*4294925036);have R:jl (q*18446744073709509356<=a*4294967296+c/\a*4294967296+c<(q+1)*18446744073709509356):=O ⟨mH q r _ _ h x,u⟩;clear h u g x
  go_wp2_with fail
  go_meet
  exact⟨q,N,R,N⟩
 obtain⟨k,rfl,X,rfl⟩:=hcut;obtain⟨v,C⟩:∃v:I,v=a*4294967296+c-k*18446744073709509356:=⟨_,N⟩;obtain⟨F,D⟩:=t_v a c k v X.1 X.2 C;have TY:=O D;clear C D;have E7:=t_w a c k v TY F;obtain⟨C,S⟩:∃C:I,C=v/4294967295:=⟨_,N⟩;obtain⟨D,U⟩:∃D:I,D=v%4294967295:=⟨_,N⟩;clear o E B g;obtain⟨E8,E9,o,E,B⟩:=mg v C D F S U;have g:jl (C*4294967295+D=v/\v*4294967296+d<(C+1)*18446744073709509356):=O (by rw[S,U];exact mr v d W F);clear S U
 go_upto_block 2 with fail
 clear E7 E8 E9
 go_cut [18,16] (λm z H=>∃k:I,m=A jk k/\jl (k*18446744073709509356<=v*4294967296+d/\v*4294967296+d<(k+1)*18446744073709509356)/\w=H)
 case first=>
  go_wp2_with fail
  go_loop [18,16] (λm z=>∃q r:I,m=A jk q/\z=A jk r/\q<=4294967297/\r<=4294967295/\jl (q*4294967295+r=v/\v*4294967296+d<(q+1)*18446744073709509356)) (λm _=>(jy m).toNat)
  case atStart=>exact⟨C,D,N,N,o,by omega,g⟩
  clear o E B g;have K:=W;have p:=F;obtain⟨q,r,rfl,rfl,o,B,g⟩:=hrel;obtain⟨h,u⟩:=g.out
  by_cases M:4294967296<=q
  ·have P:=ao ((4294967296:T)<=(q:T))
   have s:=O (mq q r v d K p M);have t:=O h;clear h u g
   go_upto_region 27 with fail
   by_cases j:r=0
   ·have y:=ap ((4294967296:T)<=(r:T)+4294967295)
    go_wp2_with fail
    refine⟨⟨q-1,r+4294967295,?_,?_,by omega,by omega,O (gB q r _ _ t.out s j)⟩,?_⟩
    ·exact jD (jb .u64) Y
    ·exact jD (jb .u64) Y
    simp only[jy];omega
   have y:=ao ((4294967296:T)<=(r:T)+4294967295)
   go_wp2_with fail
   go_meet
   exact⟨q-1,jD (jb .u64) Y,O (gs q r _ _ t.out p s j o),N⟩
  have P:=ap ((4294967296:T)<=(q:T))
  by_cases x:4294967296*r+d<q*4294925036
  ·have Q:=ao ((4294967296:T)*(r:T)+(d:T)<(q:T)*4294925036)
   have al:1<=q:=Y;have s:=O (mB q r v d h x);have t:=O h;clear h u g x
   go_upto_region 27 with fail
   by_cases j:r=0
   ·have y:=ap ((4294967296:T)<=(r:T)+4294967295)
    go_wp2_with fail
    refine⟨⟨q-1,r+4294967295,?_,?_,by omega,by omega,O (gB q r _ _ t.out s j)⟩,?_⟩
    ·exact jD (jb .u64) Y
    ·exact jD (jb .u64) Y
    simp only[jy];omega
   have y:=ao ((4294967296:T)<=(r:T)+4294967295)
   go_wp2_with fail
   go_meet
   exact⟨q-1,jD (jb .u64) Y,O (gs q r _ _ t.out p s j o),N⟩
  have Q:=ap ((4294967296:T)*(r:T)+(d:T)<(q:T)*4294925036);have R:jl (q*18446744073709509356<=v*4294967296+d/\v*4294967296+d<(q+1)*18446744073709509356):=O ⟨mH q r _ _ h x,u⟩;clear h u g x
  go_wp2_with fail
  go_meet
  exact⟨q,N,R,N⟩
 obtain⟨m,rfl,t,rfl⟩:=hcut;obtain⟨z,j⟩:∃z:I,z=(v*4294967296+d-m*18446744073709509356)/4:=⟨_,N⟩;obtain⟨u,x,s⟩:=rk f n a l c d k m v z VY YG HU HL Z5 aa TY t.1 t.2 j;have y:((f*18446744073709551616+n)%4611686018427377339:I)=z:=by
  rw[u,j6,ri,jX x]
 obtain⟨h,H⟩:∃h:I,h=4*z:=⟨_,N⟩;rw[<-H]at s;have M:=t_w v d m h s Y;have P:(h:T)/4=(z:T):=Y;have K:=O y;clear j u x s y H
 go_wp2_with fail
 go_ret2;rw[K];exact⟨_,N,jK _ _⟩
namespace DivQ
theorem sy(w:jc):js ji 261 #[A jk 2305843009213688669] w λe w'=>e=jq (A jf 3)/\w=w':=by
 have a:=λw=>pP 2305843009213688669 G G w
 have e:bitLen (2305843009213688669:T).toNat=61:=by decide+kernel
 rw[e]at a
 go_enter func261,ntmps261
 go_wp2_with (go_at_call 104;refine(a _).mono ?_;rintro e w' ⟨rfl,rfl⟩)
 go_ret;exact⟨N,N⟩
theorem gB(q r a d:I)(b:q*4294967295+r=a)(c:a*4294967296+d<q*18446744073709509352)(e:r=0):(q-1)*4294967295+(r+4294967295)=a/\a*4294967296+d<(q-1+1)*18446744073709509352:=Y
theorem gs(q r a d:I)(b:q*4294967295+r=a)(c:a<18446744073709509352)(e:a*4294967296+d<q*18446744073709509352)(f:¬r=0)(g:q<=4294967297):(q-1)*18446744073709509352<=a*4294967296+d/\a*4294967296+d<(q-1+1)*18446744073709509352:=Y
theorem mq(q r a d:I)(b:d<=4294967295)(c:a<18446744073709509352)(e:4294967296<=q):a*4294967296+d<q*18446744073709509352:=Y
theorem mB(q r a d:I)(b:q*4294967295+r=a)(c:4294967296*r+d<q*4294925032):a*4294967296+d<q*18446744073709509352:=Y
theorem mH(q r a d:I)(b:q*4294967295+r=a)(c:¬4294967296*r+d<q*4294925032):q*18446744073709509352<=a*4294967296+d:=Y
theorem mr(a d:I)(b:d<=4294967295)(c:a<18446744073709509352):a/4294967295*4294967295+a%4294967295=a/\a*4294967296+d<(a/4294967295+1)*18446744073709509352:=Y
theorem t_v(a d k v:I)(b:k*18446744073709509352<=a*4294967296+d)(c:a*4294967296+d<(k+1)*18446744073709509352)(e:v=a*4294967296+d-k*18446744073709509352):v<18446744073709509352/\v+k*18446744073709509352=a*4294967296+d:=Y
theorem mg(v q r:I)(a:v<18446744073709509352)(b:q=v/4294967295)(c:r=v%4294967295):
 (v:T)/4294967295=(q:T)/\(v:T)-(q:T)*4294967295=(r:T)/\q<=4294967297/\(q:T)*4294967295<=(v:T)/\r<=4294967294:=Y
theorem t_w(a d k v:I)(b:v+k*18446744073709509352=a*4294967296+d)(c:v<18446744073709509352):
 jJ.wrap (jJ.wrap (jJ.wrap ((a:T)*4294967296)+(d:T))-jJ.wrap ((k:T)*18446744073709509352))=(v:T):=by
 simp only[n0];omega
theorem rk(c b d l e a k m v z:I)(s:b<18446744073709551616)(t:c<2305843009213688669)(f:d=8*c+b/2305843009213693952)(g:l=b*8%18446744073709551616)(h:e=l/4294967296)(i:a=l%4294967296)
 (j:v+k*18446744073709509352=d*4294967296+e) (n:m*18446744073709509352<=v*4294967296+a) (o:v*4294967296+a<(m+1)*18446744073709509352) (p:z=(v*4294967296+a-m*18446744073709509352)/8):
 c*18446744073709551616+b=(k*4294967296+m)*2305843009213688669+z/\z<2305843009213688669/\8*z+m*18446744073709509352=v*4294967296+a:=by
 have q:l=e*4294967296+a:=Y;have r:d*18446744073709551616+l=8*(c*18446744073709551616+b):=Y;clear f g h i;obtain⟨i,f⟩:=J (v*4294967296+a);obtain⟨B,g⟩:=J (c*18446744073709551616+b);obtain⟨K,h⟩:=J (k*4294967296);have u:i+K*18446744073709509352=8*B:=Y;rw[<-f]at n o p;rw[<-f,<-g,<-h];clear j q r f g h;omega
theorem div64_0(a:I)(b:a<18446744073709551616)(w:jc):
 js ji 232 #[A jk 0,A jk a,A jk 2305843009213688669] w λe w'=>
  ∃q:T,e=jq (jN #[A jk q,A jk ((a%2305843009213688669:I):T)])/\jn w w w':=by
 have c:(0:T)<=a:=Y
 go_enter qx,qy
 go_upto_region 6 with fail
 go_quiet (fail)
 go_wp2
 go_ret2;exact⟨_,N,N,N,N,jA _,λ_ _=>rfl⟩
theorem div64_1(f n:I)(h0:1<=f)(YG:f<2305843009213688669)(VY:n<18446744073709551616)(w:jc):
 js ji 232 #[A jk f,A jk n,A jk 2305843009213688669] w λe w'=>
  ∃q:T,e=jq (jN #[A jk q,A jk (((f*18446744073709551616+n)%2305843009213688669:I):T)])/\jn w w w':=by
 obtain⟨a,k⟩:∃a:I,a=8*f+n/2305843009213693952:=⟨_,N⟩;obtain⟨l,m⟩:∃l:I,l=n*8%18446744073709551616:=⟨_,N⟩;obtain⟨c,j⟩:∃c:I,c=l/4294967296:=⟨_,N⟩;obtain⟨d,s⟩:∃d:I,d=l%4294967296:=⟨_,N⟩;obtain⟨q,t⟩:∃q:I,q=a/4294967295:=⟨_,N⟩;obtain⟨r,u⟩:∃r:I,r=a%4294967295:=⟨_,N⟩;have v:bits .and .u64 18446744073709509352 4294967295=4294925032:=by decide+kernel
 have x:bits .or .u64 ((f:T)*8) ((n:T)/2305843009213693952)=(a:T):=by
  have g:(f:T)*8=((f*8:I):T):=Y;have o:(n:T)/2305843009213693952=((n/2305843009213693952:I):T):=Y;rw[g,o,qZ _ _ Y Y,k];have h:=q9 (i:=3) (b:=n/2305843009213693952) Y f;rw[show 2^3*f=f*8 by omega]at h;rw[<-h];omega
 have h:jJ.wrap ((n:T)*8)=(l:T):=by rw[n0,m];omega
 have y:(l:T)/4294967296=(c:T):=Y;have z:bits .and .u64 (l:T) 4294967295=(d:T):=by rw[oM l Y,s]
 have p:a<18446744073709509352:=Y;have V:c<=4294967295:=Y;have W:d<=4294967295:=Y;obtain⟨C,D,o,E,B⟩:=mg a q r p t u;have g:jl (q*4294967295+r=a/\a*4294967296+c<(q+1)*18446744073709509352):=O (by rw[t,u];exact mr a c V p);have HU:=O k;have HL:=O m;have Z5:=O j;have aa:=O s;clear k m j s t u;have ad:=O sy;have j:=ap ((2305843009213688669:T)<=(f:T));have k:=ap (f=0);have m:=ap ((f:T)=0)
 go_enter qx,qy
 go_upto_block 0 with(go_at_call 261;refine(ad _).mono ?_;rintro e w' ⟨rfl,rfl⟩)
 clear v x h y z C D j k m
 go_cut [15,16] (λm z H=>∃k:I,m=A jk k/\jl (k*18446744073709509352<=a*4294967296+c/\a*4294967296+c<(k+1)*18446744073709509352)/\w=H)
 case first=>
  go_wp2_with fail
  go_loop [15,16] (λm z=>∃q r:I,m=A jk q/\z=A jk r/\q<=4294967297/\r<=4294967295/\jl (q*4294967295+r=a/\a*4294967296+c<(q+1)*18446744073709509352)) (λm _=>(jy m).toNat)
  case atStart=>exact⟨q,r,N,N,o,by omega,g⟩
  clear o E B g;have K:=V;have p:=p;obtain⟨q,r,rfl,rfl,o,B,g⟩:=hrel;obtain⟨h,u⟩:=g.out
  by_cases M:4294967296<=q
  ·have P:=ao ((4294967296:T)<=(q:T))
   have s:=O (mq q r a c K p M);have t:=O h;clear h u g
   go_upto_region 20 with fail
   by_cases j:r=0
   ·have y:=ap ((4294967296:T)<=(r:T)+4294967295)
    go_wp2_with fail
    refine⟨⟨q-1,r+4294967295,?_,?_,by omega,by omega,O (gB q r _ _ t.out s j)⟩,?_⟩
    ·exact jD (jb .u64) Y
    ·exact jD (jb .u64) Y
    simp only[jy];omega
   have y:=ao ((4294967296:T)<=(r:T)+4294967295)
   go_wp2_with fail
   go_meet
   exact⟨q-1,jD (jb .u64) Y,O (gs q r _ _ t.out p s j o),N⟩
  have P:=ap ((4294967296:T)<=(q:T))
  by_cases x:4294967296*r+c<q*4294925032
  ·have Q:=ao ((4294967296:T)*(r:T)+(c:T)<(q:T)*4294925032)
   have al:1<=q:=Y;have s:=O (mB q r a c h x);have t:=O h;clear h u g x
   go_upto_region 20 with fail
   by_cases j:r=0
   ·have y:=ap ((4294967296:T)<=(r:T)+4294967295)
    go_wp2_with fail
    refine⟨⟨q-1,r+4294967295,?_,?_,by omega,by omega,O (gB q r _ _ t.out s j)⟩,?_⟩
    ·exact jD (jb .u64) Y
    ·exact jD (jb .u64) Y
    simp only[jy];omega
   have y:=ao ((4294967296:T)<=(r:T)+4294967295)
   go_wp2_with fail
   go_meet
   exact⟨q-1,jD (jb .u64) Y,O (gs q r _ _ t.out p s j o),N⟩
  have Q:=ap ((4294967296:T)*(r:T)+(c:T)<(q:T)*4294925032);have R:jl (q*18446744073709509352<=a*4294967296+c/\a*4294967296+c<(q+1)*18446744073709509352):=O ⟨mH q r _ _ h x,u⟩;clear h u g x
  go_wp2_with fail
  go_meet
  exact⟨q,N,R,N⟩
 obtain⟨k,rfl,X,rfl⟩:=hcut;obtain⟨v,C⟩:∃v:I,v=a*4294967296+c-k*18446744073709509352:=⟨_,N⟩;obtain⟨F,D⟩:=t_v a c k v X.1 X.2 C;have TY:=O D;clear C D;have E7:=t_w a c k v TY F;obtain⟨C,S⟩:∃C:I,C=v/4294967295:=⟨_,N⟩;obtain⟨D,U⟩:∃D:I,D=v%4294967295:=⟨_,N⟩;clear o E B g;obtain⟨E8,E9,o,E,B⟩:=mg v C D F S U;have g:jl (C*4294967295+D=v/\v*4294967296+d<(C+1)*18446744073709509352):=O (by rw[S,U];exact mr v d W F);clear S U
 go_upto_block 2 with fail
 clear E7 E8 E9
 go_cut [18,16] (λm z H=>∃k:I,m=A jk k/\jl (k*18446744073709509352<=v*4294967296+d/\v*4294967296+d<(k+1)*18446744073709509352)/\w=H)
 case first=>
  go_wp2_with fail
  go_loop [18,16] (λm z=>∃q r:I,m=A jk q/\z=A jk r/\q<=4294967297/\r<=4294967295/\jl (q*4294967295+r=v/\v*4294967296+d<(q+1)*18446744073709509352)) (λm _=>(jy m).toNat)
  case atStart=>exact⟨C,D,N,N,o,by omega,g⟩
  clear o E B g;have K:=W;have p:=F;obtain⟨q,r,rfl,rfl,o,B,g⟩:=hrel;obtain⟨h,u⟩:=g.out
  by_cases M:4294967296<=q
  ·have P:=ao ((4294967296:T)<=(q:T))
   have s:=O (mq q r v d K p M);have t:=O h;clear h u g
   go_upto_region 27 with fail
   by_cases j:r=0
   ·have y:=ap ((4294967296:T)<=(r:T)+4294967295)
    go_wp2_with fail
    refine⟨⟨q-1,r+4294967295,?_,?_,by omega,by omega,O (gB q r _ _ t.out s j)⟩,?_⟩
    ·exact jD (jb .u64) Y
    ·exact jD (jb .u64) Y
    simp only[jy];omega
   have y:=ao ((4294967296:T)<=(r:T)+4294967295)
   go_wp2_with fail
   go_meet
   exact⟨q-1,jD (jb .u64) Y,O (gs q r _ _ t.out p s j o),N⟩
  have P:=ap ((4294967296:T)<=(q:T))
  by_cases x:4294967296*r+d<q*4294925032
  ·have Q:=ao ((4294967296:T)*(r:T)+(d:T)<(q:T)*4294925032)
   have al:1<=q:=Y;have s:=O (mB q r v d h x);have t:=O h;clear h u g x
   go_upto_region 27 with fail
   by_cases j:r=0
   ·have y:=ap ((4294967296:T)<=(r:T)+4294967295)
    go_wp2_with fail
    refine⟨⟨q-1,r+4294967295,?_,?_,by omega,by omega,O (gB q r _ _ t.out s j)⟩,?_⟩
    ·exact jD (jb .u64) Y
    ·exact jD (jb .u64) Y
    simp only[jy];omega
   have y:=ao ((4294967296:T)<=(r:T)+4294967295)
   go_wp2_with fail
   go_meet
   exact⟨q-1,jD (jb .u64) Y,O (gs q r _ _ t.out p s j o),N⟩
  have Q:=ap ((4294967296:T)*(r:T)+(d:T)<(q:T)*4294925032);have R:jl (q*18446744073709509352<=v*4294967296+d/\v*4294967296+d<(q+1)*18446744073709509352):=O ⟨mH q r _ _ h x,u⟩;clear h u g x
  go_wp2_with fail
  go_meet
  exact⟨q,N,R,N⟩
 obtain⟨m,rfl,t,rfl⟩:=hcut;obtain⟨z,j⟩:∃z:I,z=(v*4294967296+d-m*18446744073709509352)/8:=⟨_,N⟩;obtain⟨u,x,s⟩:=rk f n a l c d k m v z VY YG HU HL Z5 aa TY t.1 t.2 j;have y:((f*18446744073709551616+n)%2305843009213688669:I)=z:=by
  rw[u,j6,ri,jX x]
 obtain⟨h,H⟩:∃h:I,h=8*z:=⟨_,N⟩;rw[<-H]at s;have M:=t_w v d m h s Y;have P:(h:T)/8=(z:T):=Y;have K:=O y;clear j u x s y H
 go_wp2_with fail
 go_ret2;rw[K];exact⟨_,N,jK _ _⟩
end DivQ
namespace DivS
theorem sy(w:jc):js ji 261 #[A jk 2305843009213688668] w λe w'=>e=jq (A jf 3)/\w=w':=by
 have a:=λw=>pP 2305843009213688668 G G w
 have e:bitLen (2305843009213688668:T).toNat=61:=by decide+kernel
 rw[e]at a
 go_enter func261,ntmps261
 go_wp2_with (go_at_call 104;refine(a _).mono ?_;rintro e w' ⟨rfl,rfl⟩)
 go_ret;exact⟨N,N⟩
theorem gB(q r a d:I)(b:q*4294967295+r=a)(c:a*4294967296+d<q*18446744073709509344)(e:r=0):(q-1)*4294967295+(r+4294967295)=a/\a*4294967296+d<(q-1+1)*18446744073709509344:=Y
theorem gs(q r a d:I)(b:q*4294967295+r=a)(c:a<18446744073709509344)(e:a*4294967296+d<q*18446744073709509344)(f:¬r=0)(g:q<=4294967297):(q-1)*18446744073709509344<=a*4294967296+d/\a*4294967296+d<(q-1+1)*18446744073709509344:=Y
theorem mq(q r a d:I)(b:d<=4294967295)(c:a<18446744073709509344)(e:4294967296<=q):a*4294967296+d<q*18446744073709509344:=Y
theorem mB(q r a d:I)(b:q*4294967295+r=a)(c:4294967296*r+d<q*4294925024):a*4294967296+d<q*18446744073709509344:=Y
theorem mH(q r a d:I)(b:q*4294967295+r=a)(c:¬4294967296*r+d<q*4294925024):q*18446744073709509344<=a*4294967296+d:=Y
theorem mr(a d:I)(b:d<=4294967295)(c:a<18446744073709509344):a/4294967295*4294967295+a%4294967295=a/\a*4294967296+d<(a/4294967295+1)*18446744073709509344:=Y
theorem t_v(a d k v:I)(b:k*18446744073709509344<=a*4294967296+d)(c:a*4294967296+d<(k+1)*18446744073709509344)(e:v=a*4294967296+d-k*18446744073709509344):v<18446744073709509344/\v+k*18446744073709509344=a*4294967296+d:=Y
theorem mg(v q r:I)(a:v<18446744073709509344)(b:q=v/4294967295)(c:r=v%4294967295):
 (v:T)/4294967295=(q:T)/\(v:T)-(q:T)*4294967295=(r:T)/\q<=4294967297/\(q:T)*4294967295<=(v:T)/\r<=4294967294:=Y
theorem t_w(a d k v:I)(b:v+k*18446744073709509344=a*4294967296+d)(c:v<18446744073709509344):
 jJ.wrap (jJ.wrap (jJ.wrap ((a:T)*4294967296)+(d:T))-jJ.wrap ((k:T)*18446744073709509344))=(v:T):=by
 simp only[n0];omega
theorem rk(c b d l e a k m v z:I)(s:b<18446744073709551616)(t:c<2305843009213688668)(f:d=8*c+b/2305843009213693952)(g:l=b*8%18446744073709551616)(h:e=l/4294967296)(i:a=l%4294967296)
 (j:v+k*18446744073709509344=d*4294967296+e) (n:m*18446744073709509344<=v*4294967296+a) (o:v*4294967296+a<(m+1)*18446744073709509344) (p:z=(v*4294967296+a-m*18446744073709509344)/8):
 c*18446744073709551616+b=(k*4294967296+m)*2305843009213688668+z/\z<2305843009213688668/\8*z+m*18446744073709509344=v*4294967296+a:=by
 have q:l=e*4294967296+a:=Y;have r:d*18446744073709551616+l=8*(c*18446744073709551616+b):=Y;clear f g h i;obtain⟨i,f⟩:=J (v*4294967296+a);obtain⟨B,g⟩:=J (c*18446744073709551616+b);obtain⟨K,h⟩:=J (k*4294967296);have u:i+K*18446744073709509344=8*B:=Y;rw[<-f]at n o p;rw[<-f,<-g,<-h];clear j q r f g h;omega
theorem div64_0(a:I)(b:a<18446744073709551616)(w:jc):
 js ji 232 #[A jk 0,A jk a,A jk 2305843009213688668] w λe w'=>
  ∃q:T,e=jq (jN #[A jk q,A jk ((a%2305843009213688668:I):T)])/\jn w w w':=by
 have c:(0:T)<=a:=Y
 go_enter qx,qy
 go_upto_region 6 with fail
 go_quiet (fail)
 go_wp2
 go_ret2;exact⟨_,N,N,N,N,jA _,λ_ _=>rfl⟩
theorem div64_1(f n:I)(h0:1<=f)(YG:f<2305843009213688668)(VY:n<18446744073709551616)(w:jc):
 js ji 232 #[A jk f,A jk n,A jk 2305843009213688668] w λe w'=>
  ∃q:T,e=jq (jN #[A jk q,A jk (((f*18446744073709551616+n)%2305843009213688668:I):T)])/\jn w w w':=by
 obtain⟨a,k⟩:∃a:I,a=8*f+n/2305843009213693952:=⟨_,N⟩;obtain⟨l,m⟩:∃l:I,l=n*8%18446744073709551616:=⟨_,N⟩;obtain⟨c,j⟩:∃c:I,c=l/4294967296:=⟨_,N⟩;obtain⟨d,s⟩:∃d:I,d=l%4294967296:=⟨_,N⟩;obtain⟨q,t⟩:∃q:I,q=a/4294967295:=⟨_,N⟩;obtain⟨r,u⟩:∃r:I,r=a%4294967295:=⟨_,N⟩;have v:bits .and .u64 18446744073709509344 4294967295=4294925024:=by decide+kernel
 have x:bits .or .u64 ((f:T)*8) ((n:T)/2305843009213693952)=(a:T):=by
  have g:(f:T)*8=((f*8:I):T):=Y;have o:(n:T)/2305843009213693952=((n/2305843009213693952:I):T):=Y;rw[g,o,qZ _ _ Y Y,k];have h:=q9 (i:=3) (b:=n/2305843009213693952) Y f;rw[show 2^3*f=f*8 by omega]at h;rw[<-h];omega
 have h:jJ.wrap ((n:T)*8)=(l:T):=by rw[n0,m];omega
 have y:(l:T)/4294967296=(c:T):=Y;have z:bits .and .u64 (l:T) 4294967295=(d:T):=by rw[oM l Y,s]
 have p:a<18446744073709509344:=Y;have V:c<=4294967295:=Y;have W:d<=4294967295:=Y;obtain⟨C,D,o,E,B⟩:=mg a q r p t u;have g:jl (q*4294967295+r=a/\a*4294967296+c<(q+1)*18446744073709509344):=O (by rw[t,u];exact mr a c V p);have HU:=O k;have HL:=O m;have Z5:=O j;have aa:=O s;clear k m j s t u;have ad:=O sy;have j:=ap ((2305843009213688668:T)<=(f:T));have k:=ap (f=0);have m:=ap ((f:T)=0)
 go_enter qx,qy
 go_upto_block 0 with(go_at_call 261;refine(ad _).mono ?_;rintro e w' ⟨rfl,rfl⟩)
 clear v x h y z C D j k m
 go_cut [15,16] (λm z H=>∃k:I,m=A jk k/\jl (k*18446744073709509344<=a*4294967296+c/\a*4294967296+c<(k+1)*18446744073709509344)/\w=H)
 case first=>
  go_wp2_with fail
  go_loop [15,16] (λm z=>∃q r:I,m=A jk q/\z=A jk r/\q<=4294967297/\r<=4294967295/\jl (q*4294967295+r=a/\a*4294967296+c<(q+1)*18446744073709509344)) (λm _=>(jy m).toNat)
  case atStart=>exact⟨q,r,N,N,o,by omega,g⟩
  clear o E B g;have K:=V;have p:=p;obtain⟨q,r,rfl,rfl,o,B,g⟩:=hrel;obtain⟨h,u⟩:=g.out
  by_cases M:4294967296<=q
  ·have P:=ao ((4294967296:T)<=(q:T))
   have s:=O (mq q r a c K p M);have t:=O h;clear h u g
   go_upto_region 20 with fail
   by_cases j:r=0
   ·have y:=ap ((4294967296:T)<=(r:T)+4294967295)
    go_wp2_with fail
    refine⟨⟨q-1,r+4294967295,?_,?_,by omega,by omega,O (gB q r _ _ t.out s j)⟩,?_⟩
    ·exact jD (jb .u64) Y
    ·exact jD (jb .u64) Y
    simp only[jy];omega
   have y:=ao ((4294967296:T)<=(r:T)+4294967295)
   go_wp2_with fail
   go_meet
   exact⟨q-1,jD (jb .u64) Y,O (gs q r _ _ t.out p s j o),N⟩
  have P:=ap ((4294967296:T)<=(q:T))
  by_cases x:4294967296*r+c<q*4294925024
  ·have Q:=ao ((4294967296:T)*(r:T)+(c:T)<(q:T)*4294925024)
   have al:1<=q:=Y;have s:=O (mB q r a c h x);have t:=O h;clear h u g x
   go_upto_region 20 with fail
   by_cases j:r=0
   ·have y:=ap ((4294967296:T)<=(r:T)+4294967295)
    go_wp2_with fail
    refine⟨⟨q-1,r+4294967295,?_,?_,by omega,by omega,O (gB q r _ _ t.out s j)⟩,?_⟩
    ·exact jD (jb .u64) Y
    ·exact jD (jb .u64) Y
    simp only[jy];omega
   have y:=ao ((4294967296:T)<=(r:T)+4294967295)
   go_wp2_with fail
   go_meet
   exact⟨q-1,jD (jb .u64) Y,O (gs q r _ _ t.out p s j o),N⟩
  have Q:=ap ((4294967296:T)*(r:T)+(c:T)<(q:T)*4294925024);have R:jl (q*18446744073709509344<=a*4294967296+c/\a*4294967296+c<(q+1)*18446744073709509344):=O ⟨mH q r _ _ h x,u⟩;clear h u g x
  go_wp2_with fail
  go_meet
  exact⟨q,N,R,N⟩
 obtain⟨k,rfl,X,rfl⟩:=hcut;obtain⟨v,C⟩:∃v:I,v=a*4294967296+c-k*18446744073709509344:=⟨_,N⟩;obtain⟨F,D⟩:=t_v a c k v X.1 X.2 C;have TY:=O D;clear C D;have E7:=t_w a c k v TY F;obtain⟨C,S⟩:∃C:I,C=v/4294967295:=⟨_,N⟩;obtain⟨D,U⟩:∃D:I,D=v%4294967295:=⟨_,N⟩;clear o E B g;obtain⟨E8,E9,o,E,B⟩:=mg v C D F S U;have g:jl (C*4294967295+D=v/\v*4294967296+d<(C+1)*18446744073709509344):=O (by rw[S,U];exact mr v d W F);clear S U
 go_upto_block 2 with fail
 clear E7 E8 E9
 go_cut [18,16] (λm z H=>∃k:I,m=A jk k/\jl (k*18446744073709509344<=v*4294967296+d/\v*4294967296+d<(k+1)*18446744073709509344)/\w=H)
 case first=>
  go_wp2_with fail
  go_loop [18,16] (λm z=>∃q r:I,m=A jk q/\z=A jk r/\q<=4294967297/\r<=4294967295/\jl (q*4294967295+r=v/\v*4294967296+d<(q+1)*18446744073709509344)) (λm _=>(jy m).toNat)
  case atStart=>exact⟨C,D,N,N,o,by omega,g⟩
  clear o E B g;have K:=W;have p:=F;obtain⟨q,r,rfl,rfl,o,B,g⟩:=hrel;obtain⟨h,u⟩:=g.out
  by_cases M:4294967296<=q
  ·have P:=ao ((4294967296:T)<=(q:T))
   have s:=O (mq q r v d K p M);have t:=O h;clear h u g
   go_upto_region 27 with fail
   by_cases j:r=0
   ·have y:=ap ((4294967296:T)<=(r:T)+4294967295)
    go_wp2_with fail
    refine⟨⟨q-1,r+4294967295,?_,?_,by omega,by omega,O (gB q r _ _ t.out s j)⟩,?_⟩
    ·exact jD (jb .u64) Y
    ·exact jD (jb .u64) Y
    simp only[jy];omega
   have y:=ao ((4294967296:T)<=(r:T)+4294967295)
   go_wp2_with fail
   go_meet
   exact⟨q-1,jD (jb .u64) Y,O (gs q r _ _ t.out p s j o),N⟩
  have P:=ap ((4294967296:T)<=(q:T))
  by_cases x:4294967296*r+d<q*4294925024
  ·have Q:=ao ((4294967296:T)*(r:T)+(d:T)<(q:T)*4294925024)
   have al:1<=q:=Y;have s:=O (mB q r v d h x);have t:=O h;clear h u g x
   go_upto_region 27 with fail
   by_cases j:r=0
   ·have y:=ap ((4294967296:T)<=(r:T)+4294967295)
    go_wp2_with fail
    refine⟨⟨q-1,r+4294967295,?_,?_,by omega,by omega,O (gB q r _ _ t.out s j)⟩,?_⟩
    ·exact jD (jb .u64) Y
    ·exact jD (jb .u64) Y
    simp only[jy];omega
   have y:=ao ((4294967296:T)<=(r:T)+4294967295)
   go_wp2_with fail
   go_meet
   exact⟨q-1,jD (jb .u64) Y,O (gs q r _ _ t.out p s j o),N⟩
  have Q:=ap ((4294967296:T)*(r:T)+(d:T)<(q:T)*4294925024);have R:jl (q*18446744073709509344<=v*4294967296+d/\v*4294967296+d<(q+1)*18446744073709509344):=O ⟨mH q r _ _ h x,u⟩;clear h u g x
  go_wp2_with fail
  go_meet
  exact⟨q,N,R,N⟩
 obtain⟨m,rfl,t,rfl⟩:=hcut;obtain⟨z,j⟩:∃z:I,z=(v*4294967296+d-m*18446744073709509344)/8:=⟨_,N⟩;obtain⟨u,x,s⟩:=rk f n a l c d k m v z VY YG HU HL Z5 aa TY t.1 t.2 j;have y:((f*18446744073709551616+n)%2305843009213688668:I)=z:=by
  rw[u,j6,ri,jX x]
 obtain⟨h,H⟩:∃h:I,h=8*z:=⟨_,N⟩;rw[<-H]at s;have M:=t_w v d m h s Y;have P:(h:T)/8=(z:T):=Y;have K:=O y;clear j u x s y H
 go_wp2_with fail
 go_ret2;rw[K];exact⟨_,N,jK _ _⟩
end DivS
section
variable{g:I}{a Ψ:I->Prop}{b:Type}{B w:jc}
structure bZ(B0:I)(Ψ:I->Prop)(a B:jc):Prop where
 os:B.os=a.os
 tape:B.tape=a.tape
 output:B.output=a.output
 size:a.heap.size<=B.heap.size
 block:∀k,k<a.heap.size->¬Ψ k->(B.heap[k]?=a.heap[k]?\/(B0<=k/\∃o:Obj,a.heap[k]?=ja o/\o.isCells=jw))
theorem bZ.refl(B0:I)(Ψ:I->Prop)(a:jc):bZ B0 Ψ a a:=⟨N,N,N,jA _,λ_ _ _=>.inl N⟩
theorem bZ.ofBelow{B0:I}{a:jc}{n:I}(h:jn n a B)(b:∀k,k<a.heap.size->¬Ψ k->k<n):bZ B0 Ψ a B:=
 ⟨h.os,h.tape,h.output,h.size,λk hk c=>.inl (h.block k (b k hk c))⟩
theorem bZ.alloc(B0:I)(Ψ:I->Prop)(a:jc)(o:Obj):bZ B0 Ψ a (a.alloc o):=
 ⟨rfl,rfl,rfl,by simp,λk hk _=>.inl (jH _ _ _ hk)⟩
theorem bZ.putObj{c:I}{o:Obj}(b:Obj)(l:w.heap[c]?=ja o)(d:o.isCells=jw)(f:g<=c):bZ g a w (w.putObj c b):=by
 refine⟨N,N,N,by simp[qL],λk hk _=>?_⟩
 by_cases e:k=c
 ·subst e;exact .inr ⟨f,o,l,d⟩
 exact .inl (mz e)
def b6{β:Type}(B0:I)(c:β->(I->Prop)->jc->Prop):Prop:=
 ∀s Ψ a b B,c s Ψ b->bZ B0 a b B->(∀k,Ψ k->a k)->(∀k,a k->Ψ k\/b.heap.size<=k)->c s a B
theorem b6.and{a β:b->(I->Prop)->jc->Prop}(h:b6 g a)(j:b6 g β):b6 g (λs Ψ W=>a s Ψ W/\β s Ψ W):=
 λs Ψ c d B e f B0 i=>⟨h s Ψ c d B e.1 f B0 i,j s Ψ c d B e.2 f B0 i⟩
theorem b6.keep{β:Type}{B0:I}{a:β->(I->Prop)->jc->Prop}(h:b6 B0 a){s:β}{Ψ:I->Prop}{b B:jc}(c:a s Ψ b)(d:bZ B0 Ψ b B):a s Ψ B:=
 h s Ψ Ψ b B c d (λ_ h=>h) (λ_ h=>.inl h)
theorem bZ.cells{B0:I}{a:jc}(h:bZ B0 Ψ a B){k:I}{c:jt jh}{t:jr}{f:I×I}(hk:a.heap[k]?=ja (jj c t f))(d:¬Ψ k):B.heap[k]?=ja (jj c t f):=by
 rcases h.block k (jO.1 hk).1 d with e|⟨_,o,b,g⟩
 ·exact e.trans hk
 rw[hk]at b;cases b;cases g
theorem bZ.row{B0:I}{a:jc}(h:bZ B0 Ψ a B){base:I}{e:jr}{size:I}{v:jh}{n:I}{xs:je jh}
 (b:a.ownsRow base e size v n xs) (c:∀j,v.ownBlock=ja j->¬Ψ j):B.ownsRow base e size v n xs:=by
 refine⟨b.1,?_⟩
 rcases b.2 with d|⟨g,f,i,rfl,j,k,l⟩
 ·exact .inl d
 exact .inr ⟨g,f,i,N,j,h.cells k (c g N),l⟩
def lI(b:I)(t:jr)(base:I)(e:jr)(size n:I)(xs:je jh)(a:jh->Prop)(Ψ:I->Prop)(W:jc):Prop:=
 ∃v,jB W b t v/\¬Ψ b/\W.ownsRow base e size v n xs/\(∀j,v.ownBlock=ja j->¬Ψ j)/\a v
theorem pN{β:Type}(B0 b:I)(t:jr)(base:I)(e:jr)(size:I)(n:β->I)(f:β->je jh)(o:β->jh->Prop):
 b6 B0 (λs Ψ W=>lI b t base e size (n s) (f s) (o s) Ψ W):=by
 rintro s Ψ a u B ⟨v,c,p,d,q,r⟩ g w i;have k:¬a b:=λh=>by rcases i _ h with h|h;exact p h;have:=c.lt;omega
 have l:∀j,v.ownBlock=ja j->¬a j:=λj m h=>by
  rcases i _ h with h|h
  ·exact q j m h
  have:=(d.lt j m).2;omega
 exact⟨v,g.cells c k,k,g.row d l,l,r⟩
theorem iy(B0 β:I)(t:jr)(f:b->jh):b6 B0 (λs Ψ W=>jB W β t (f s)/\¬Ψ β):=by
 rintro s Ψ d j B ⟨a,e⟩ g k i;have c:¬d β:=λh=>by rcases i _ h with h|h;exact e h;have:=a.lt;omega
 exact⟨g.cells a c,c⟩
theorem l9(B0 n:I)(w:jc)(i:n<=w.heap.size)(j:n<=B0):b6 B0 (fun(_:b) Ψ W=>jn n w W/\∀k,Ψ k->n<=k):=by
 rintro s Ψ d l B ⟨β,f⟩ a m g;have c:∀k,d k->n<=k:=λk h=>by
  rcases g _ h with h|h
  ·exact f k h
  have:=β.size;omega
 refine⟨β.trans ⟨a.os,a.tape,a.output,a.size,λk hk=>?_⟩,c⟩
 rcases a.block k (bL β.size) (λh=>by have:=c k h;omega)with e|⟨h,_⟩
 ·exact e
 omega
theorem zY{r:jC I}(h:w.drew.grownBy B r):w.grownBy B r:=⟨h.os,h.tape,h.output,h.size,h.block⟩
theorem pI{a d:jc}{n₀ b B0:I}{t e:jr}{size k m:I}{v c:jh}{xs f:je jh}{p:Obj}{Ψ:I->Prop}
 (q:jB a b t v) (r:t≠e) (s:a.ownsRow n₀ e size v k xs) (u:n₀<=a.heap.size) (w:n₀<=b) (g:¬Ψ b) (i:∀j,v.ownBlock=ja j->¬Ψ j)
 (l:∀j,Ψ j->j<a.heap.size) (y:d.ownsRow n₀ e size c m f) (n:(a.alloc p).grownBy d v.ownBlock) (z:∀j,c.ownBlock=ja j->v.ownBlock=ja j\/j=a.heap.size+1):
 (qm B0 a (d.setCell ⟨b,0,jd⟩ c)/\jn n₀ a (d.setCell ⟨b,0,jd⟩ c)/\∀k,Ψ k->(d.setCell ⟨b,0,jd⟩ c).heap[k]?=a.heap[k]?)/\
 lI b t n₀ e size m f (λx=>x=c) Ψ (d.setCell ⟨b,0,jd⟩ c):=by
 obtain⟨H,x,B,C,D⟩:=q.appended r s u w y n;refine⟨⟨C.from _,D,λk hk=>?_⟩,c,x,g,B,λj E o=>?_,N⟩
 ·have F:=l k hk
  rw[ow _ _ _ _ (show k≠b by rintro rfl;exact g hk),n.block k (by simp;omega) (λh=>i k h.symm hk),jH _ _ _ F]
 rcases z j E with h|h
 ·exact i j h o
 have:=l j o;omega
theorem fA(B0:I)(p:b->Prop):b6 B0 (λs _ _=>p s):=λ_ _ _ _ _ h _ _ _=>h
def eo{α:Type}(P:jI)(g:I)(lb:jt jh)(encs:α->jt jh)(f:I->Prop)(n₀:I)(S h V:je α->Prop)(w:jc):Prop:=
 ∀(l:I) (c d:je α->(I->Prop)->jc->Prop) (W:jc),jn w w W->b6 W.heap.size c->b6 W.heap.size d->
  (∀a x Ψ b,c a Ψ b->(∀k,Ψ k->k<b.heap.size)->V (a++[x])->YieldAt Fence.wide 0 P l (encs x) b λe B=>
   (e=jq (.bool jg)/\c (a++[x]) Ψ B/\jn n₀ b B/\∀k,Ψ k->B.heap[k]?=b.heap[k]?)\/(e=jq (.bool jw)/\d (a++[x]) Ψ B/\jn n₀ b B/\∀k,Ψ k->B.heap[k]?=b.heap[k]?))->
  c [] f W->
  js P g (#[.func (.yield l) #[] #[]]++lb) W λe B=>(∃v,e=jq v)/\((∃xs Ψ,S xs/\c xs Ψ B)\/(∃a Ψ,h a/\d a Ψ B))
def Do{α:Type}(P:jI)(g:I)(lb:jt jh)(encs:α->jt jh)(f:I->Prop)(n₀:I)(S h:je α->Prop)(V i:je α->(I->Prop)->jc->Prop)(j:α->I->Prop)(w:jc):Prop:=
 ∀(l:I) (c d:je α->(I->Prop)->jc->Prop) (W:jc),jn w w W->b6 W.heap.size c->b6 W.heap.size d->(∀a Ψ B,c a Ψ B->i a Ψ B)->
  (∀b x Ψ a,c b Ψ a->c b (λk=>Ψ k\/j x k) a->(∀k,Ψ k->k<a.heap.size)->V (b++[x]) Ψ a->YieldAt Fence.wide 0 P l (encs x) a λe B=>
   (e=jq (.bool jg)/\c (b++[x]) Ψ B/\jn n₀ a B/\∀k,Ψ k->B.heap[k]?=a.heap[k]?)\/(e=jq (.bool jw)/\d (b++[x]) Ψ B/\jn n₀ a B/\∀k,Ψ k->B.heap[k]?=a.heap[k]?))->
  c [] f W->
  js P g (#[.func (.yield l) #[] #[]]++lb) W λe B=>(∃v,e=jq v)/\((∃xs Ψ,S xs/\c xs Ψ B)\/(∃b Ψ,h b/\d b Ψ B))
theorem eo.v{α:Type}{P:jI}{lb:jt jh}{encs:α->jt jh}{n₀:I}{S b V:je α->Prop}(h:eo P g lb encs a n₀ S b V w):Do P g lb encs a n₀ S b (λc _ _=>V c) (λ_ _ _=>True) (λ_ _=>False) w:=λl d e W f i j _ k=>h l d e W f i j λm x Ψ n c=>k m x Ψ n c (ah c)
def oU{α:Type}(B0 n₀:I)(c:je α->(I->Prop)->jc->Prop)(b:j4->je α->(I->Prop)->jc->Prop)(xs:je α)(Ψ:I->Prop)(a:jc):jV->Act->jc->Prop
 | .normal,_,B=>(qm B0 a B/\jn n₀ a B/\∀k,Ψ k->B.heap[k]?=a.heap[k]?)/\c xs Ψ B
 | .ret,_,B=>(qm B0 a B/\jn n₀ a B/\∀k,Ψ k->B.heap[k]?=a.heap[k]?)/\b .ret xs Ψ B
 | .exit d,_,B=>(qm B0 a B/\jn n₀ a B/\∀k,Ψ k->B.heap[k]?=a.heap[k]?)/\b (.exit d) xs Ψ B
 | .goto t,_,B=>(qm B0 a B/\jn n₀ a B/\∀k,Ψ k->B.heap[k]?=a.heap[k]?)/\b (.goto t) xs Ψ B
 | .panic _,_,_=>False
 | .outgrown,_,_=>False
def vM{α:Type}(B0 n₀:I)(c:je α->(I->Prop)->jc->Prop)(b:j4->je α->(I->Prop)->jc->Prop)(xs:je α)(Ψ:I->Prop)(a:jc):jV->Act->jc->Prop
 | .normal,_,B=>((B.heap[B0]?=a.heap[B0]?/\B.heap[B0+1]?=a.heap[B0+1]?)/\jn n₀ a B/\∀k,Ψ k->B.heap[k]?=a.heap[k]?)/\c xs Ψ B
 | .ret,_,B=>((B.heap[B0]?=a.heap[B0]?/\B.heap[B0+1]?=a.heap[B0+1]?)/\jn n₀ a B/\∀k,Ψ k->B.heap[k]?=a.heap[k]?)/\b .ret xs Ψ B
 | .exit d,_,B=>((B.heap[B0]?=a.heap[B0]?/\B.heap[B0+1]?=a.heap[B0+1]?)/\jn n₀ a B/\∀k,Ψ k->B.heap[k]?=a.heap[k]?)/\b (.exit d) xs Ψ B
 | .goto t,_,B=>((B.heap[B0]?=a.heap[B0]?/\B.heap[B0+1]?=a.heap[B0+1]?)/\jn n₀ a B/\∀k,Ψ k->B.heap[k]?=a.heap[k]?)/\b (.goto t) xs Ψ B
 | .panic _,_,_=>False
 | .outgrown,_,_=>False
theorem iO{c:I}{o:Obj}(b:g<=c):jn g w (w.putObj c o):=
 ⟨rfl,rfl,rfl,by simp[qL],λk hk=>mz Y⟩
variable {P:jI}
theorem oU.two{c:I}{n₀:je b->(I->Prop)->jc->Prop}{Ψ:j4->je b->(I->Prop)->jc->Prop}{xs:je b}{e:jV}{d:Act}{r:Loop}(f:w.heap[g]?=ja (.deferred (ja [])))(B0:w.heap[g+1]?=ja (.loop r))(h:oU g c n₀ Ψ xs a w e d B):vM g c n₀ Ψ xs a w e d B:=by
 cases e<;>first
  |exact h
  |exact⟨⟨⟨(h.1.1.same _ _ (jA _) f N).trans f.symm,(h.1.1.same _ _ (Nat.le_succ _) B0 N).trans B0.symm⟩,h.1.2⟩,h.2⟩
theorem zh{b:Type}{n:lm}{ps:jt Tmp}{assign body:j4}{au:jV->Act->jc->Prop}{d:Act}{w:jc}{g:I}
 {gf:I} {lb:jt jh} (hg:d.eval n=.func (.func gf) #[] lb) (eg:∀args w,(qz gf args).run P w=.ok (.enter gf args) w)
 {encs:b->jt jh} {Ψ0:I->Prop} {n₀:I} {S Sp:je b->Prop} {V RA:je b->(I->Prop)->jc->Prop} {Φ:b->I->Prop} (Vb:Do P gf lb encs Ψ0 n₀ S Sp V RA Φ w)
 (V8:n₀<=w.heap.size) (Zq:∀x,(encs x).size=ps.size) (Wb:∀k,Ψ0 k->k<w.heap.size)
 (i:je b->(I->Prop)->jc->Prop) (Q:j4->je b->(I->Prop)->jc->Prop) (F:b6 w.heap.size i) (hG:∀u Ψ B,i u Ψ B->RA u Ψ B) (R:∀c,b6 w.heap.size (Q c)) (h0:i [] Ψ0 w)
 (Ax:b->Act->(I->Prop)->jc->Prop) (bd:b6 w.heap.size (fun(s:b×Act) Ψ W=>Ax s.1 s.2 Ψ W))
 (bf:∀(l:I) (α:je b) (x:b) (Ψ:I->Prop) (a:jc) (K:Act->jc->Prop),i α Ψ a->i α (λk=>Ψ k\/Φ x k) a->V (α++[x]) Ψ a->(∀k,Ψ k->k<a.heap.size)->
  (∀z m,jn a a m->i α Ψ m->Ax x z Ψ m->K z m)->
  assign.wpIn (Fence.wide.inRound l) 0 P (Exit.then K (λ_ _ _=>False)) {tmps:=(ps.zip (encs x)).foldl (λt (p,v)=>t.setIfInBounds p v) d.tmps,defers:=[]} a)
 (bg:∀(l:I) (α:je b) (x:b) (Ψ:I->Prop) (z:Act) (a:jc),i α Ψ a->Ax x z Ψ a->(∃o e,V (α++[x]) o e)->(∀k,Ψ k->k<a.heap.size)->w.heap.size+2<=a.heap.size->l=w.heap.size+1->a.heap[w.heap.size]?=ja (.deferred (ja []))->(∃r,a.heap[w.heap.size+1]?=ja (.loop r))->
  body.wpIn (Fence.wide.inRound l) 0 P (vM w.heap.size n₀ i Q (α++[x]) Ψ a) z a)
 (bh:∀(D:I) (xs:je b) (Ψ:I->Prop) (W:jc),D=w.heap.size->S xs->i xs Ψ W->W.heap[D]?=ja (.deferred (ja []))->au .normal {d with defers:={target:=.collected D,args:=#[]}::d.defers} W)
 (bk:∀(D:I) (c:j4) (α:je b) (Ψ:I->Prop) (W:jc),D=w.heap.size->Sp α->Q c α Ψ W->W.heap[D]?=ja (.deferred (ja []))->c.wpIn Fence.wide g P au {d with defers:={target:=.collected D,args:=#[]}::d.defers} W):
 (Code.rangeFunc n ps assign body).wpIn Fence.wide g P au d w:=by
 refine wpIn_rangeFunc ?_;intro fn bl;obtain⟨f,l⟩:∃f:LoopState->jC j4->Loop,f=λH K=>{state:=H,pending:=K,fn,tmps:=d.tmps,params:=ps,assign,body,defers:=w.heap.size}:=⟨_,N⟩
 obtain⟨j,M⟩:∃j,(w.alloc (.deferred (ja []))).alloc (.loop (f .ready jd))=j:=⟨_,N⟩;have bC:j.heap.size=w.heap.size+2:=by rw[<-M];simp
 have bm:j.heap[w.heap.size+1]?=ja (.loop (f .ready jd)):=by
  rw[<-M];have:=jL (w.alloc (.deferred (ja []))) (.loop (f .ready jd));rwa [km]at this
 have bn:j.heap[w.heap.size]?=ja (.deferred (ja [])):=by
  rw[<-M];exact(jH _ _ _ ax).trans (jL w _)
 have bo:i [] Ψ0 j:=by rw[<-M];exact F.keep (F.keep h0 (bZ.alloc _ _ _ _)) (bZ.alloc _ _ _ _)
 have bq:jn w w j:=by
  rw[<-M];exact(((jK _ w).alloc (jA _) _).alloc ax _)
 let U (H:LoopState) (K:jC j4) (Ψ:I->Prop) (W:jc):Prop:=
  W.heap[w.heap.size+1]?=ja (.loop (f H K))/\W.heap[w.heap.size]?=ja (.deferred (ja []))/\¬Ψ w.heap.size/\¬Ψ (w.heap.size+1)
 have ba:∀H K,b6 j.heap.size (fun(_:je b) Ψ W=>U H K Ψ W):=by
  rintro H K s Ψ o a B ⟨p,q,D,E⟩ e X r;have a1:=(jO.1 p).1;have y:¬o w.heap.size:=λh=>by rcases r _ h with h|h;exact D h;omega
  have C:¬o (w.heap.size+1):=λh=>by rcases r _ h with h|h;exact E h;omega
  refine⟨?_,?_,y,C⟩
  ·rcases e.block _ a1 C with h|⟨h,_⟩
   ·exact h.trans p
   omega
  rcases e.block _ Y y with h|⟨h,_⟩
  ·exact h.trans q
  omega
 have up:∀{β:Type} {i:β->(I->Prop)->jc->Prop},b6 w.heap.size i->b6 j.heap.size i:=by
  intro β i h s Ψ o a B r e p q;refine h s Ψ o a B r ⟨e.os,e.tape,e.output,e.size,λk hk C=>?_⟩ p q
  rcases e.block k hk C with h|⟨h,y⟩
  ·exact .inl h
  exact .inr ⟨by omega,y⟩
 have br:b6 j.heap.size (fun(α:je b) Ψ W=>∃c,Q c α Ψ W/\U .done (ja c) Ψ W):=by
  rintro s Ψ o a B ⟨c,r,y⟩ e p q;exact⟨c,up (R c) s Ψ o a B r e p q,ba _ _ s Ψ o a B y e p q⟩
 refine⟨w.heap.size+1,[{target:=.collected w.heap.size,args:=#[]}],j,{target:=.fn (.func gf) lb,args:=#[.func (.yield (w.heap.size+1)) #[] #[]]},j,gf,
  #[.func (.yield (w.heap.size+1)) #[] #[]]++lb,j,?_,?_,?_,?_,?_,?_⟩
 ·rw[<-M,l];exact run_enterLoop_outer _ _ _ _ _
 ·simp only[resolve,hg]
  simp[go_sem]
 ·intro e a;simp[Target.leads]at a;subst a;trivial
 ·simp[invoke,go_sem,eg]
 ·intro h;simp[Fence.wide]at h
 refine callsIn_wide.2 ((Vb (w.heap.size+1) (λα Ψ W=>i α Ψ W/\U .ready jd Ψ W) (λα Ψ W=>∃c,Q c α Ψ W/\U .done (ja c) Ψ W) j bq
  ((up F).and (ba _ _)) br (λu Ψ B h=>hG u Ψ B h.1) ?_ ⟨bo,bm,bn,λh=>by have:=Wb _ h;omega,λh=>by have:=Wb _ h;omega⟩).mono ?_)
 ·
  rintro α x Ψ W ⟨X,q,hk,hd,aa⟩ ⟨bs,-⟩ a2 bb;have a1:w.heap.size+1<W.heap.size:=(jO.1 q).1;have hy:=run_yield (P:=P) (args:=encs x) q (by rw[l];exact Zq x);rw[l]at hy;refine⟨fn,_,assign,body,hy,roundIn_of_wpIn bl (bf _ α x Ψ W _ X bs bb a2 ?_)⟩;intro z m ad bu bv;have a3:m.heap[w.heap.size+1]?=ja (.loop (f .ready jd)):=(ad.block _ a1).trans q;have bw:m.heap[w.heap.size]?=ja (.deferred (ja [])):=(ad.block _ Y).trans hk;have bA:w.heap.size+1<m.heap.size:=(jO.1 a3).1;refine⟨_,run_beginRound a3 (by rw[l]),?_⟩;have a4:(m.putObj (w.heap.size+1) (.loop {f .ready jd with state:=.busy})).heap[w.heap.size+1]?=ja (.loop {f .ready jd with state:=.busy}):=xx bA;have a5:(m.putObj (w.heap.size+1) (.loop {f .ready jd with state:=.busy})).heap[w.heap.size]?=ja (.deferred (ja [])):=(mz Y).trans bw;have t2:bZ w.heap.size Ψ m (m.putObj (w.heap.size+1) (.loop {f .ready jd with state:=.busy})):=bZ.putObj _ a3 N Y;refine wpIn_mono (bg _ α x Ψ z _ (F.keep bu t2) (bd.keep (s:=(x,z)) bv t2) ⟨_,_,bb⟩ (λk B=>by have:=a2 k B;have:=ad.size;simp[qL];omega) (by simp[qL];omega) N a5 ⟨_,a4⟩) ?_;obtain⟨r,TZ⟩:∃r,m.putObj (w.heap.size+1) (.loop {f .ready jd with state:=.busy})=r:=⟨_,N⟩;have bc:jn n₀ W r:=by rw[<-TZ];exact(ad.mono Y).trans (iO Y)
  have bB:∀k,Ψ k->k<W.heap.size->r.heap[k]?=W.heap[k]?:=by
   intro k B D;rw[<-TZ,mz (by intro e;subst e;exact aa B),ad.block k D]
  have bI:W.heap.size<=r.heap.size:=bc.size;rw[TZ]at a4 a5⊢;have al:∀(h:jC j4) (a:jc),((a.heap[w.heap.size]?=r.heap[w.heap.size]?/\a.heap[w.heap.size+1]?=r.heap[w.heap.size+1]?)/\jn n₀ r a/\∀k,Ψ k->a.heap[k]?=r.heap[k]?)->
   (Instr.endRound (w.heap.size+1) h).run P a=.ok (.bool h.isNone) (a.putObj (w.heap.size+1) (.loop (f (if h.isNone then .ready else .done) h)))/\
   bZ w.heap.size Ψ a (a.putObj (w.heap.size+1) (.loop (f (if h.isNone then .ready else .done) h)))/\
   U (if h.isNone then .ready else .done) h Ψ (a.putObj (w.heap.size+1) (.loop (f (if h.isNone then .ready else .done) h)))/\
   jn n₀ W (a.putObj (w.heap.size+1) (.loop (f (if h.isNone then .ready else .done) h)))/\
   ∀k,Ψ k->(a.putObj (w.heap.size+1) (.loop (f (if h.isNone then .ready else .done) h))).heap[k]?=W.heap[k]?:=by
   rintro h a ⟨o,u,y⟩;have E:=o.2.trans a4;have p:=run_endRound (P:=P) h E;rw[l]at p⊢;refine⟨p,bZ.putObj _ E N Y,⟨?_,(mz Y).trans (o.1.trans a5),hd,aa⟩,(bc.trans u).trans (iO Y),λk B=>?_⟩
   ·rw[l];exact xx (jO.1 E).1
   rw[mz (by intro e;subst e;exact aa B),y k B]
   by_cases D:k<W.heap.size
   ·exact bB k B D
   exact ol (a2 k B) D
  rintro e bK a C
  cases e with
  |normal=>
   obtain⟨o,B⟩:=C;obtain⟨p,D,u,E,y⟩:=al jd a o;exact⟨_,_,p,.inl ⟨N,⟨F.keep B D,u⟩,E,y⟩⟩
  |ret=>
   obtain⟨o,B⟩:=C;obtain⟨p,D,u,E,y⟩:=al (ja .ret) a o;exact⟨_,_,p,.inr ⟨N,⟨.ret,(R _).keep B D,u⟩,E,y⟩⟩
  |exit id=>
   obtain⟨o,B⟩:=C;obtain⟨p,D,u,E,y⟩:=al (ja (.exit id)) a o;exact⟨_,_,p,.inr ⟨N,⟨.exit id,(R _).keep B D,u⟩,E,y⟩⟩
  |goto t=>
   obtain⟨o,B⟩:=C;obtain⟨p,D,u,E,y⟩:=al (ja (.goto t)) a o;exact⟨_,_,p,.inr ⟨N,⟨.goto t,(R _).keep B D,u⟩,E,y⟩⟩
  |panic o=>exact C.elim
  |outgrown=>exact C.elim
 
 rintro e k ⟨⟨v,rfl⟩,(⟨xs,Ψ,a,X,q,hk,hd,aa⟩|⟨α,Ψ,h,c,X,q,hk,hd,aa⟩)⟩
 ·exact⟨jd,_,by have:=run_endLoop (P:=P) q (by rw[l];simp);rw[l]at this;exact this,bh _ xs Ψ _ N a (F.keep X (bZ.putObj _ q N Y)) ((mz Y).trans hk)⟩
 exact⟨ja c,_,by have:=run_endLoop (P:=P) q (by rw[l];simp);rw[l]at this;exact this,bk _ c α Ψ _ N h ((R c).keep X (bZ.putObj _ q N Y)) ((mz Y).trans hk)⟩
theorem o5{α:Type}{g:lm}{q:jt Tmp}{assign body:j4}{u:jV->Act->jc->Prop}{a:Act}{w:jc}{n:I}
 {gf:I} {lb:jt jh} (C:a.eval g=.func (.func gf) #[] lb) (E:∀args w,(qz gf args).run P w=.ok (.enter gf args) w)
 {encs:α->jt jh} {y:I->Prop} {n₀:I} {S z V:je α->Prop} (F:eo P gf lb encs y n₀ S z V w)
 (H:n₀<=w.heap.size) (M:∀x,(encs x).size=q.size) (Q:∀k,y k->k<w.heap.size)
 (f:je α->(I->Prop)->jc->Prop) (m:j4->je α->(I->Prop)->jc->Prop) (R:b6 w.heap.size f) (U:∀c,b6 w.heap.size (m c)) (X:f [] y w)
 (o:α->Act->(I->Prop)->jc->Prop) (aa:b6 w.heap.size (fun(s:α×Act) Ψ W=>o s.1 s.2 Ψ W))
 (s:∀(l:I) (b:je α) (x:α) (Ψ:I->Prop) (d:jc) (K:Act->jc->Prop),f b Ψ d->V (b++[x])->
  (∀i e,jn d d e->f b Ψ e->o x i Ψ e->K i e)->
  assign.wpIn (Fence.wide.inRound l) 0 P (Exit.then K (λ_ _ _=>False)) {tmps:=(q.zip (encs x)).foldl (λt (p,v)=>t.setIfInBounds p v) a.tmps,defers:=[]} d)
 (t:∀(l:I) (b:je α) (x:α) (Ψ:I->Prop) (i:Act) (d:jc),f b Ψ d->o x i Ψ d->V (b++[x])->(∀k,Ψ k->k<d.heap.size)->w.heap.size<=d.heap.size->(∃r,d.heap[l]?=ja (.loop r))->
  body.wpIn (Fence.wide.inRound l) 0 P (oU w.heap.size n₀ f m (b++[x]) Ψ d) i d)
 (v:∀(D:I) (xs:je α) (Ψ:I->Prop) (W:jc),w.heap.size<=D->S xs->f xs Ψ W->W.heap[D]?=ja (.deferred (ja []))->u .normal {a with defers:={target:=.collected D,args:=#[]}::a.defers} W)
 (ad:∀(D:I) (c:j4) (b:je α) (Ψ:I->Prop) (W:jc),w.heap.size<=D->z b->m c b Ψ W->W.heap[D]?=ja (.deferred (ja []))->c.wpIn Fence.wide n P u {a with defers:={target:=.collected D,args:=#[]}::a.defers} W):
 (Code.rangeFunc g q assign body).wpIn Fence.wide n P u a w:=by
 refine zh C E F.v H M Q f m R (λ_ _ _ _=>trivial) U X o aa (λl b x Ψ d K p _ j _ hk=>s l b x Ψ d K p j hk) (λl b x Ψ i d p K j hΨ e h h1 k=>?_) (λD xs Ψ W e=>v D xs Ψ W (qA e.symm)) (λD c b Ψ W e=>ad D c b Ψ W (qA e.symm));obtain⟨-,-,j⟩:=j;obtain⟨r,k⟩:=k;exact wpIn_mono (t l b x Ψ i d p K j hΨ Y ⟨r,by rw[h];exact k⟩) λe a B h=>oU.two h1 k h
end
section
variable{f i:I}
section
variable {P:jI} {ops:jt jz} {Q:jV->Act->jc->Prop} {md:Region.Mode} {S:jc->Prop}
def su(ops:jt jz):jv:=ops.all λo=>match o.op with| .defer .. =>jw|_=>jg
theorem Pm(h:su ops=jg)(j:I)(o:jz)(c:Call)(a:ops[j]?=ja o):o.op≠.defer c:=by
 intro b;have:=o4.1 h o (Array.mem_of_getElem? a);simp[b]at this
theorem Hw{f i c:I}(e:¬LetsOut Q)(g:su ops=jg){K:Act->jc->Prop}{a:Act}{w:jc}
 (h:jM P ops Q c K a w):wpOpIn (Fence.wide.inRound f) i P ops Q c K a w:=by
 unfold jM at h;unfold wpOpIn
 cases ho:ops[c]? with
 |none=>simpa [ho]using h
 |some o=>
  simp only[ho]at h⊢
  split
  ·rename_i b
   simp only[b,if_true]at h
   rcases h with h|⟨_,j⟩
   ·refine⟨λ_ _=>trivial,?_⟩
    show o.uponIn (Fence.wide.inRound f) i P a K Q ((o.semAt (ja f) a.eval).run P w);rw[Oper.semAt_eq _ _ _ (λn=>Pm g c o n ho)];unfold Oper.wp at h;generalize(jY a.eval o).run P w=r at*
    cases r with
    |ok x w'=>
     cases x<;>simp only[Oper.upon]at h<;>simp only[Oper.uponIn]
     case value u=>exact h
     case skip=>exact h
     case defer d=>exact h
     case enter l args=>exact⟨by simp[Fence.inRound,Fence.wide],CallsIn.inRound f (callsIn_wide.2 h)⟩
     case row row args=>exact⟨by simp[Fence.inRound,Fence.wide],λn cs _=>by
      obtain⟨v,k,r,s⟩:=h n cs;exact⟨v,k,r,stepsIn_wide.2 s⟩⟩
    |halt x w'=>cases x<;>simp only[Oper.upon]at h<;>simp only[Oper.uponIn]<;>exact h
   exact ol j e
  rename_i b;simp only[b]at h;exact⟨λ_ _=>trivial,h⟩
theorem Ao{f i:I}(b:¬LetsOut Q)(c:su ops=jg):∀(fuel:I) (d:jt jv) (a:Act) (w:jc),
 wpAny P md ops Q fuel d a w->wpAnyIn (Fence.wide.inRound f) i P md ops Q fuel d a w
 |0,_,_,_,h=>h
 |fuel+1,_,_,_,h=>⟨h.1,λn e=>Hw b c (j5 (λl w' g=>Ao b c fuel _ l w' g) (h.2 n e))⟩
def ir(md:Region.Mode)(ops:jt jz)(a:jt jv):Prop:=∀(j:I) b,ops[j]?=ja b->a.getD j jw=jg->∀e∈b.after,Region.binds md e=jg->a.getD e.on jw=jg
theorem G4{a:jt jv}(h:a.getD i jw=jg):(a.setIfInBounds f jg).getD i jw=jg:=by
 rw[qB]at h⊢;rw[Array.getElem?_setIfInBounds]
 split
 ·rename_i e
  subst e
  split
  ·rfl
  rename_i b;rw[rn Y]at h
  cases h
 exact h
theorem ir.zero(n:I):ir md ops (pa n jw):=λj a _ h=>by
 rw[qB,Array.getElem?_replicate]at h
 split at h<;>cases h
theorem ir.set{a:jt jv}(h:ir md ops a)(g:i∈Region.ready md ops a):ir md ops (a.setIfInBounds i jg):=by
 intro j k b l e he c;refine G4 ?_
 by_cases d:j=i
 ·subst d
  obtain⟨-,o,f,m⟩:=mem_ready.1 g;rw[b]at f
  cases f
  exact m e he c
 refine h j k b ?_ e he c
 rwa [qB,Array.getElem?_setIfInBounds_ne (Ne.symm d),<-qB]at l
def nT(md:Region.Mode)(ops:jt jz):I->I->I->jv
 |0,_,_=>jw
 |n+1,j,i=>match ops[j]? with|none=>jw|some o=>o.after.any λe=>Region.binds md e&&(e.on==i||nT md ops n e.on i)
theorem FN{a:jt jv}(c:ir md ops a){i:I}:∀(n j:I) b,ops[j]?=ja b->(∀e∈b.after,Region.binds md e=jg->a.getD e.on jw=jg)->nT md ops n j i=jg->a.getD i jw=jg
 |0,_,_,_,_,h=>by cases h
 |n+1,j,b,d,f,h=>by
  rw[nT,d]at h;simp only[Array.any_eq_true',j1,rv,beq_iff_eq]at h;obtain⟨e,he,g,h⟩:=h;have k:=f e he g
  rcases h with h|h
  ·rwa [<-h]
  cases hk:ops[e.on]? with
  |none=>cases n<;>simp[nT,hk]at h
  |some ok=>exact FN c n e.on ok hk (c e.on ok hk k) h
def gC(P:jI)(md:Region.Mode)(ops:jt jz)(Q:jV->Act->jc->Prop)(S:jc->Prop)(f:I):I->jt jv->Act->jc->Prop
 |0,b,a,w=>Region.ready md ops b=[]/\Q .normal a w
 |fuel+1,b,a,w=>ir md ops b->
  (Region.ready md ops b=[]->Q .normal a w)/\
  ∀i∈Region.ready md ops b,jM P ops Q i (λc w'=>(f<=i\/S w')/\gC P md ops Q S f fuel (b.setIfInBounds i jg) c w') a w
theorem sw:∀(fuel:I) (b:jt jv) (a:Act) (w:jc),ir md ops b->gC P md ops Q S f fuel b a w->wpAny P md ops Q fuel b a w
 |0,_,_,_,_,h=>h
 |fuel+1,_,_,_,c,h=>⟨(h c).1,λi d=>j5 (λe w' g=>sw fuel _ e w' (c.set d) g.2) ((h c).2 i d)⟩
def QJ(P:jI)(r:Result Next)(v:jh)(w:jc):Prop:=
 r=.ok (.value v) w\/∃f args,r=.ok (.enter f args) w/\js P f args w λe w'=>e=jq v/\w'=w
def fs(P:jI)(ops:jt jz)(S:jc->Prop)(o:jz)(v:jh)(a:Act):Prop:=
 (Region.wanted o (lo ops a.tmps)=jg/\∀w,S w->QJ P ((jY a.eval o).run P w) v w)\/
 (Region.wanted o (lo ops a.tmps)=jw/\v=jE)
theorem fs.wpOp{o:jz}{a:jh}{v:Act}(d:ops[f]?=ja o)(g:fs P ops S o a v)
 {K:Act->jc->Prop} {w:jc} (j:S w) (h:K (v.put o.dst a) w):jM P ops Q f K v w:=by
 unfold Go.wpOp;simp only[d]
 rcases g with⟨b,k⟩|⟨b,rfl⟩
 ·simp only[b,if_true]
  refine .inl ?_;unfold Oper.wp
  rcases k w j with c|⟨i,args,c,l⟩
  ·rw[c];exact h
  rw[c];simp only[Oper.upon];refine l.mono ?_;rintro e w' ⟨rfl,rfl⟩;exact h
 simp only[b,Bool.false_eq_true,if_false];exact h
theorem fs.of_same{o:jz}{a:jh}{v b:Act}(c:fs P ops S o a v)(he:jY b.eval o=jY v.eval o)
 (d:Region.wanted o (lo ops b.tmps)=Region.wanted o (lo ops v.tmps)):fs P ops S o a b:=by
 unfold fs at*;rw[he,d];exact c
theorem KX{g:jz}(k:ops[f]?=ja g){K:Act->jc->Prop}{a:Act}{w:jc}(h:jM P ops Q f K a w):
 jM P ops Q f (λc w'=>(∃d b,c=Act.put {a with defers:=d} g.dst b)/\K c w') a w:=by
 unfold jM at*;simp only[k]at*
 split
 ·rename_i i
  simp only[i,if_true]at h
  rcases h with h|h
  case inr=>exact .inr h
  refine .inl ?_;unfold Oper.wp at*;generalize(jY a.eval g).run P w=r at*
  cases r with
  |halt x w'=>cases x<;>exact h
  |ok n w'=>
   cases n<;>simp only[Oper.upon]at h⊢
   case value b=>exact⟨⟨a.defers,b,N⟩,h⟩
   case skip=>exact⟨⟨a.defers,jE,N⟩,h⟩
   case defer d=>exact⟨⟨d::a.defers,jE,N⟩,h⟩
   case enter j args=>
    refine Calls.mono h λe l he=>?_
    cases e with
    |returned b=>exact⟨⟨a.defers,b,N⟩,he⟩
    |panicked c=>exact he
    |outgrown=>exact he
   case row row args=>exact Rows.mono h λb l he=>⟨⟨a.defers,b,N⟩,he⟩
 rename_i i;simp only[i]at h;exact⟨⟨a.defers,jE,N⟩,h⟩
theorem OY{e j:jz}{a:jh}(g:ops[f]?=ja j)(i:e.apart ops j=jg)
 (k:∀cs b,e.op≠.select cs b) (m:∀cs b,j.op≠.select cs b)
 (n:∀c v w,Q (.panic c) (v.put e.dst a) w->Q (.panic c) v w) {K:Act->jc->Prop} {v:Act} {w:jc}
 (c:fs P ops S e a v) (h:jM P ops Q f K (v.put e.dst a) w):
 jM P ops Q f (λb w'=>fs P ops S e a b/\K (b.put e.dst a) w') v w:=by
 have o:YieldsIf P ops (λ_=>False) e a v:=c.imp (fun⟨h,_⟩=>⟨h,λ_ h=>h.elim⟩) id;obtain⟨_,_,l⟩:=Oper.apart_spec i;refine j5 (λb w' h=>?_) (KX g (wpOp_putIf g i k m n o h));obtain⟨⟨d,b,rfl⟩,_,p⟩:=h;have q:fs P ops S e a {v with defers:=d}:=c.of_same N N;exact⟨q.of_same (execOp_put e k _ j.dst b l) (wanted_put e _ j.dst b l),p⟩
theorem ug{f:I}{q:jz}{a:jh}(x:ops[i]?=ja q)(z:∀(j:I) (o:jz) cs b,ops[j]?=ja o->o.op≠.select cs b)
 (M:∀c v d a w,Q (.panic c) (Act.put v d a) w->Q (.panic c) v w):∀(fuel:I) (g:jt jv) (v:Act) (w:jc),
  (∀j l,ops[j]?=ja l->j≠i->g.getD j jg=jw->(∀e∈l.after,Region.binds md e=jg->e.on≠i)->q.apart ops l=jg)->
  (∀(j:I) l,ops[j]?=ja l->f<=j->j≠i->∃n,nT md ops n j i=jg)->
  i∈Region.ready md ops g->fs P ops S q a v->S w->
  gC P md ops Q S f fuel (g.setIfInBounds i jg) (v.put q.dst a) w->gC P md ops Q S f (fuel+1) g v w:=by
 intro fuel
 induction fuel with
 |zero=>
  intro g v w _ _ m t r H;refine λy=>⟨λh=>(by rw[h]at m;cases m),λj u=>?_⟩
  by_cases o:j=i
  ·rw[o];exact t.wpOp x r ⟨.inr r,H⟩
  have d:=ready_mono u o;rw[H.1]at d
  cases d
 |succ fuel R=>
  intro g v w B C m t r H;refine λy=>⟨λh=>(by rw[h]at m;cases m),λj u=>?_⟩
  by_cases o:j=i
  ·rw[o];exact t.wpOp x r ⟨.inr r,H⟩
  obtain⟨D,l,s,E⟩:=mem_ready.1 u;have U:∀e∈l.after,Region.binds md e=jg->e.on≠i:=λe he V W=>by
   have d:=E e he V;have p:=(mem_ready.1 m).1;rw[W]at d
   rcases qu i g.size with k|k
   ·simp[k]at p d;rw[p]at d;cases d
   simp[rn k]at d
  have X:∀k ok,ops[k]?=ja ok->k≠i->(g.setIfInBounds j jg).getD k jg=jw->
   (∀e∈ok.after,Region.binds md e=jg->e.on≠i)->q.apart ops ok=jg:=λk ok hk aa F Sx=>by
   refine B k ok hk aa ?_ Sx
   by_cases K:j=k
   ·rw[<-K];exact D
   rw[getD_set_ne jg K]at F;exact F
  have K:i∈Region.ready md ops (g.setIfInBounds j jg):=ready_mono m (Ne.symm o);refine j5 (λa' w' h3=>?_) (OY s (B j l s o D U) (λcs b=>z i q cs b x) (λcs b=>z j l cs b s) (λc v w=>M c v _ _ w) t ((H (y.set m)).2 j (ready_mono u o)));obtain⟨aa,ad,h4⟩:=h3;have F:S w':=by
   rcases ad with c|c
   ·obtain⟨n,hn⟩:=C j l s c o
    have d:=FN y n j l s E hn;have p:=(mem_ready.1 m).1;rw[qB]at p d
    cases hq:g[i]? with
    |none=>rw[hq]at d;cases d
    |some b=>rw[hq]at p d;simp at p d;rw[p]at d;cases d
   exact c
  refine⟨.inr F,R (g.setIfInBounds j jg) a' w' X C K aa F ?_⟩;rw[xy _ _ o];exact h4
theorem YieldsIf.q{o:jz}{v:jh}{a:Act}(h:YieldsIf P ops S o v a):fs P ops S o v a:=h.imp (fun⟨b,c⟩=>⟨b,λw d=>.inl (c w d)⟩) id
def yY(md:Region.Mode)(ops:jt jz)(f i:I):jv:=
 (List.range ops.size).all λj=>decide (j<f)||j==i||nT md ops 4 j i
theorem C6(h:yY md ops f i=jg):∀(j:I) b,ops[j]?=ja b->f<=j->j≠i->∃n,nT md ops n j i=jg:=by
 intro j b c e d;have a:=xz.1 h j (xA.2 (jO.1 c).1);simp only[rv,decide_eq_true_eq,beq_iff_eq,d,or_false]at a
 rcases a with a|a
 ·omega
 exact⟨4,a⟩
theorem B5(j:I)(a:jz)(b:ops[j]?=ja a)(h:ops.size<=j):False:=by
 have:=(jO.1 b).1;omega
def iF(md:Region.Mode)(ops:jt jz)(f:I):je (I×jv)->jt jv->jv
 |[],a=>Region.ready md ops a==[]
 |(i,jg)::b,a=>Region.free md ops a i&&(Region.ready md ops a).contains i&&yY md ops f i&&iF md ops f b (a.setIfInBounds i jg)
 |(i,jw)::b,a=>Region.ready md ops a==[i]&&iF md ops f b (a.setIfInBounds i jg)
def wA(f:I)(l:je (I×jv)):jv:=l.all λx=> !x.2&&decide (f<=x.1)
def fE(P:jI)(ops:jt jz)(Q:jV->Act->jc->Prop)(S:jc->Prop)(f:I):je (I×jv)->Act->jc->Prop
 |[],a,w=>Q .normal a w
 |(i,jg)::b,a,w=>∃o v,ops[i]?=ja o/\fs P ops S o v a/\fE P ops Q S f b (a.put o.dst v) w
 |(i,jw)::b,a,w=>jM P ops Q i (λc w'=>(f<=i/\wA f b=jg/\fE P ops Q S f b c w')\/(S w'/\(S w'->fE P ops Q S f b c w'))) a w
theorem si{f:I}(g:Region.noSelect ops=jg)(k:∀c a d v w,Q (.panic c) (Act.put a d v) w->Q (.panic c) a w):
 ∀(l:je (I×jv)) (b:jt jv) (a:Act) (w:jc),iF md ops f l b=jg->(wA f l=jg\/S w)->fE P ops Q S f l a w->gC P md ops Q S f l.length b a w
 |[],b,a,w,hk,_,h=>⟨by simpa [iF]using hk,h⟩
 |(i,jg)::d,b,a,w,hk,e,⟨o,v,m,p,h⟩=>by
  have e:S w:=e.resolve_left (by simp[wA]);simp only[iF,j1]at hk;exact ug m (Region.noSelect_spec g) k d.length b a w (Region.free_spec m hk.1.1.1) (C6 hk.1.2) (ah hk.1.1.2) p e (si g k d _ _ _ hk.2 (.inr e) h)
 |(i,jw)::d,b,a,w,hk,e,h=>by
  simp only[iF,j1,beq_iff_eq]at hk;refine λ_=>⟨λq=>(by rw[q]at hk;simp at hk),λj n=>?_⟩
  obtain rfl:j=i:=by rw[hk.1]at n;simpa using n
  refine j5 (λr w' c=>?_) h
  rcases c with⟨r,s,t⟩|c
  ·exact⟨.inl r,si g k d _ _ _ hk.2 (.inl s) t⟩
  exact⟨.inr c.1,si g k d _ _ _ hk.2 (.inr c.1) (c.2 c.1)⟩
theorem wX{f:I}{a:Act}{w:jc}(S:jc->Prop)(b:I)(l:je (I×jv))(e:P.follows .mixedOrders=jg)(g:Region.noSelect ops=jg)
 (hk:iF .any ops b l (pa ops.size jw)=jg) (i:l.length=ops.size) (j:∀c a d v w,Q (.panic c) (Act.put a d v) w->Q (.panic c) a w)
 (c:S w.drew) (h:fE P ops Q S b l a w.drew):(Code.region f ops jg).wp P Q a w:=
 wp_region_any e (sw _ _ _ _ (ir.zero _) (by have:=si g j l _ a _ hk (.inr c) h;rw[i]at this;exact this))
theorem uo{f i:I}{c:I}{a:Act}{w:jc}(S:jc->Prop)(r:I)(l:je (I×jv))(e:P.follows .mixedOrders=jg)(g:Region.noSelect ops=jg)(n:su ops=jg)
 (hk:iF .any ops r l (pa ops.size jw)=jg) (j:l.length=ops.size) (k:∀b a d v w,Q (.panic b) (Act.put a d v) w->Q (.panic b) a w) (b:¬LetsOut Q)
 (d:S w.drew) (h:fE P ops Q S r l a w.drew):(Code.region c ops jg).wpIn (Fence.wide.inRound f) i P Q a w:=
 wpIn_region_any e (Ao b n _ _ _ _ (sw _ _ _ _ (ir.zero _) (by have:=si g k l _ a _ hk (.inr d) h;rw[j]at this;exact this)))
theorem iQ{f:I}{a:Act}{w:jc}(S:jc->Prop)(b:I)(l:je (I×jv))(e:P.follows .mixedOrders=jg)(g:Region.noSelect ops=jg)
 (hk:iF .any ops b l (pa ops.size jw)=jg) (i:l.length=ops.size) (j:∀c a d w,Q (.panic c) a w->Q (.panic c) d w)
 (k:S w.drew) (h:fE P ops Q S b l a w.drew):(Code.region f ops jg).wp P Q a w:=
 wX S b l e g hk i (λc a d v w=>j c _ a w) k h
theorem Gg{f i:I}{c:I}{a:Act}{w:jc}(S:jc->Prop)(r:I)(l:je (I×jv))(e:P.follows .mixedOrders=jg)(g:Region.noSelect ops=jg)(n:su ops=jg)
 (hk:iF .any ops r l (pa ops.size jw)=jg) (j:l.length=ops.size) (k:∀b a d w,Q (.panic b) a w->Q (.panic b) d w) (m:¬LetsOut Q)
 (o:S w.drew) (h:fE P ops Q S r l a w.drew):(Code.region c ops jg).wpIn (Fence.wide.inRound f) i P Q a w:=
 uo S r l e g n hk j (λb a d v w=>k b _ a w) m o h
theorem dY{f:I}{o:jz}{v:jh}{b:je (I×jv)}{a:Act}{w:jc}(c:ops[i]?=ja o)(d:Region.wanted o (lo ops a.tmps)=jg)
 (e:∀w,S w->(jY a.eval o).run P w=.ok (.value v) w) (h:fE P ops Q S f b (a.put o.dst v) w):fE P ops Q S f ((i,jg)::b) a w:=
 ⟨o,v,c,.inl ⟨d,λw g=>.inl (e w g)⟩,h⟩
theorem JE{f:I}{o:jz}{b:je (I×jv)}{a:Act}{w:jc}(c:ops[i]?=ja o)(d:Region.wanted o (lo ops a.tmps)=jw)
 (h:fE P ops Q S f b (a.put o.dst jE) w):fE P ops Q S f ((i,jg)::b) a w:=
 ⟨o,jE,c,.inr ⟨d,rfl⟩,h⟩
theorem bE{f:I}{o:jz}{b:je (I×jv)}{a:Act}{w:jc}(e:ops[i]?=ja o)
 (h:∀c:Act->jc->Prop,Shut (∀a w,S w->(S w->fE P ops Q S f b a w)->c a w)->if Region.wanted o (lo ops a.tmps)=jg then Oper.wp P o a w c Q else c (a.put o.dst jE) w):
 fE P ops Q S f ((i,jw)::b) a w:=
 wpOp_step e λc g=>h c (λa w d j=>g a w (.inr ⟨d,λ_=>j d⟩))
theorem g6{o:jz}{a:Act}{w:jc}(c:ops[f]?=ja o)
 (h:∀b:Act->jc->Prop,Shut (∀a w,Q .normal a w->b a w)->if Region.wanted o (lo ops a.tmps)=jg then Oper.wp P o a w b Q else b (a.put o.dst jE) w):
 fE P ops Q S f [(f,jw)] a w:=
 wpOp_step c λb d=>h b (λa w e=>d a w (.inl ⟨jA _,rfl,e⟩))
end
theorem cQ{p q:Prop}(k:q)(h:q->p:=by intro k;refine dY (v:=?_) rfl (by rfl) (λW' hS=>?_) ?_;rotate_left;(go_simp;with_reducible rfl);refine L ?_;exact k):p:=h k
theorem Cq{p q:Prop}(k:q)(h:q->p:=by intro k;refine dY (v:=?_) rfl (by rfl) (λW' hS=>?_) ?_;rotate_left;(clear hS;go_simp;with_reducible rfl);refine L ?_;exact k):p:=h k
theorem tR{p q:Prop}(k:q)(h:q->p:=by intro k;refine dY (v:=?_) rfl (by rfl) (λW' hS=>?_) ?_;rotate_left;(obtain⟨s0,s1,s2⟩:=hS;go_simp;with_reducible rfl);refine L ?_;exact k):p:=h k
theorem kW{p q:Prop}(k:q)(h:q->p:=by intro k;refine dY (v:=?_) rfl (by rfl) (λW' hS=>?_) ?_;rotate_left;(obtain⟨s0,s1,s2,s3⟩:=hS;go_simp;with_reducible rfl);refine L ?_;exact k):p:=h k
theorem uu{p q:Prop}(k:q)(h:q->p:=by intro k;refine dY (v:=?_) rfl (by rfl) (λW' hS=>?_) ?_;rotate_left;(obtain⟨s0,s1,s2,s3,s4⟩:=hS;go_simp;with_reducible rfl);refine L ?_;exact k):p:=h k
theorem Aq{p q:Prop}(k:q)(h:q->p:=by intro k;refine dY (v:=?_) rfl (by rfl) (λW' hS=>?_) ?_;rotate_left;(have b0:=hS;clear hS;go_simp;with_reducible rfl);refine L ?_;exact k):p:=h k
theorem pU{p q:Prop}(k:q)(h:q->p:=by intro k;refine JE rfl (by rfl) ?_;refine L ?_;exact k):p:=h k
end
section
open Go.RowKit Go.Shelf
attribute [local go_sem] Oper.semAt_some
def PN:I:=4611686018427377339
theorem dX:PN=4611686018427377339:=N
theorem KZ(a b:I)(f:a<PN)(g:b<PN)(w:jc):
 js ji 231 #[A jk a,A jk b] w λe w'=>∃c d:I,e=jq (jN #[A jk c,A jk d])/\c<4611686018427377339/\d<18446744073709551616/\jl (c*18446744073709551616+d=a*b)/\w=w':=by
 rw[dX]at f g;refine(Al a b Y Y w).mono ?_;rintro e w' ⟨rfl,rfl⟩;have h:a*b<=4611686018427377338*4611686018427377338:=Nat.mul_le_mul Y Y;refine⟨_,_,N,?_,qC _ G,O (by rw[j6];exact Nat.div_add_mod _ _),N⟩;generalize a*b=m at h;omega
theorem KH(a b:I)(f:a<4611686018427377339)(d:b<18446744073709551616)(w:jc):
 js ji 232 #[A jk a,A jk b,A jk 4611686018427377339] w λe w'=>
  ∃(q:T) (r:I),e=jq (jN #[A jk q,A jk r])/\jl (r=(a*18446744073709551616+b)%PN)/\jn w w w':=by
 rcases pz a with rfl|h
 ·refine(div64_0 b d w).mono ?_
  rintro e w' ⟨q,rfl,c⟩;exact⟨q,_,N,O (by rw[sg,kn,dX]),c⟩
 refine(div64_1 a b h f d w).mono ?_;rintro e w' ⟨q,rfl,c⟩;exact⟨q,_,N,O (by rw[dX]),c⟩
theorem zf(a b:I)(d:a<PN)(f:b<PN)(w:jc):
 js ji 180 #[A jk a,A jk b] w λe w'=>∃c:I,e=jq (A jk c)/\jl (c=a*b%PN)/\jn w w w':=by
 have g:=O (KZ a b d f);clear d f
 go_enter func180,ntmps180
 go_wp2_with fail
 refine(g _).mono ?_;rintro e m ⟨h,i,rfl,d,f,j,rfl⟩;have k:=O (KH h i d f);clear d f
 go_wp2_with fail
 refine(k _).mono ?_;rintro e n ⟨q,r,rfl,f,d⟩;have l:=O d;clear d
 go_wp2_with fail
 go_ret;exact⟨r,N,O (by rw[f,j]),l⟩
def g9(k:I):I->je jv
 |0=>[]
 |n+1=>(k/2^n%2==1)::g9 k n
def pwL(a:I)(l:je jv):I:=l.foldl (λc b=>if b=jg then c*c%PN*a%PN else c*c%PN) 1
theorem ww(a:I)(l:je jv)(b:jv):pwL a (l++[b])=if b=jg then pwL a l*pwL a l%PN*a%PN else pwL a l*pwL a l%PN:=by
 simp[pwL]
theorem EJ(a:I):∀(l:je jv) (c:I),c<PN->l.foldl (λc b=>if b=jg then c*c%PN*a%PN else c*c%PN) c<PN
 |[],c,h=>h
 |b::r,c,h=>by
  rw[List.foldl_cons];refine EJ a r _ ?_
  split<;>exact qC _ (by rw[dX];decide)
theorem Nq(a:I)(l:je jv):pwL a l<PN:=EJ a l 1 (by rw[dX];decide)
theorem Pe(a m:I):a^m%PN*(a^m%PN)%PN=a^(2*m)%PN:=by
 rw[<-lr,<-sh,qM]
theorem zA(a k:I):∀n (l:je jv) (m:I),pwL a l=a^m%PN->pwL a (l++g9 k n)=a^(m*2^n+k%2^n)%PN
 |0,l,m,h=>by simp[g9,Nat.mod_one,h]
 |n+1,l,m,h=>by
  have hk:=Nat.mod_pow_succ (b:=2) (k:=n) (x:=k);have e:l++g9 k (n+1)=(l++[(k/2^n%2==1)])++g9 k n:=by simp[g9]
  rw[e]
  rcases qN (k/2^n)with c|d
  ·rw[zA a k n _ (2*m) (by rw[ww,c,h];simp[<-sh,qM])]
   rw[hk,c,mF,Nat.mul_zero,Nat.add_zero,j6 2 m,qD,j6 2]
  rw[zA a k n _ (2*m+1) (by
   rw[ww,d,h];simp only[beq_self_eq_true,if_true,Pe];rw[mF,lr,qE,<-lr])]
  rw[hk,d,mF,sn,qO,sq]
  congr 2
  rw[j6 2 m,qD,j6 2];omega
theorem uk(a k n:I)(hk:k<2^n):pwL a (g9 k n)=a^k%PN:=by
 have h:=zA a k n [] 0 (by simp[pwL,dX]);rw[mT,sg,kn,jX hk]at h;exact h
theorem Io(k:T)(w:jc):
 js ji 205 #[A jk k] w λe w'=>e=jq (.func (.func 239) #[] #[jG (ja ⟨w,0,jd⟩)])/\w'=w.alloc (jj #[A jk k] 163):=by
 go_enter func205,ntmps205
 go_wp2
 go_ret;exact⟨N,N⟩
theorem He(k n:I)(hk:k<18446744073709551616)(c:bitLen k=n)(V:n<=64)(b:I)(w:jc)(t:jB w b 163 (A jk k)):
 eo ji 239 #[jG (ja ⟨b,0,jd⟩)] (λm:jv=>#[.bool m]) (·=b) 0 (λxs=>xs=g9 k n) (λ_=>True) (λ_=>True) w:=by
 intro l u X W d f v g o;have x:jB W b 163 (A jk k):=(d.block b t.lt).trans t;have a:=O (pP k Y Y);rw[qF]at a;rw[c]at a;have y:=x.cell;refine(qn (n:=0)).1 ?_;refine q4 func239 N trivial ?_ N;simp only[ntmps239,jZ,lw,qe,qf,qg,qh,qi,qj,qk,mT,j7]
 gi_wp2_with fail
 refine⟨trivial,N,(callsIn_wide.2 (a _)).mono ?_⟩;rintro e w' ⟨rfl,rfl⟩;have hN:=O c;clear c y
 gi_wp2_with fail
 gi_loopw [3] (λs wr=>W.heap.size<=wr.heap.size/\∃(c:je jv) (j:I) (i:T),s=A jf i/\ -1<=i/\i<=63/\jl (i=(j:T)-1)/\jl (c++g9 k j=g9 k n)/\u c (·=b) wr/\jB wr b 163 (A jk k))
  (λs wr=>(jy s+1).toNat)
 case atStart=>
  exact⟨jA _,[],n,_,N,by omega,by omega,O rfl,O rfl,o,x⟩
 obtain⟨E,c,j,i,rfl,aa,ad,s,z,p,q⟩:=hrel;have y:=q.cell
 by_cases B:0<=i
 ·obtain⟨m,rfl⟩:=sv B
  have F:decide ((0:T)<=(m:T))=jg:=by simp
  obtain rfl:j=m+1:=aA s;have hm:m<=63:=Y;have r:bits .and .u64 ((k:T)/2^m) 1=((k/2^m%2:I):T):=by
   have e:(k:T)/2^m=((k/2^m:I):T):=by simp
   have h:=xB k (2^m);rw[e,show(1:T)=((1:I):T)from N,bits_and_u64_nat _ 1 Y G,Nat.and_one_is_mod]
  have H:(bits .and .u64 ((k:T)/2^m) 1==1)=(k/2^m%2==1):=by
   rw[r]
   rcases qN (k/2^m)with h|h<;>rw[h]<;>rfl
  obtain⟨C,h⟩:=J ((k/2^m%2==1));rw[<-h]at H;have K:=O h;clear r h;obtain⟨fn,tmps,assign,body,M,D⟩:=g c C (·=b) wr p (by rintro _ rfl;exact q.lt) trivial;have HJ:jl (b6 W.heap.size u):=f;clear f g o v d B a
  gi_wp2
  refine⟨N,D.mono ?_⟩;rintro e P (⟨rfl,Q,h,r⟩|⟨rfl,R,h,r⟩)
  ·have S:jB P b 163 (A jk k):=(r b N).trans q
   have U:=h.size;clear r h D M
   gi_wp2
   go_roundw
   case rel=>
    refine⟨oi E U,c++[C],m,(m:T)-1,N,by omega,by omega,O rfl,?_,Q,S⟩;exact O (by rw[<-z,K];simp[g9])
   case measure=>simp only[jy];omega
  gi_wp2
  refine nz (mb N _ _ _) N ?_;exact⟨⟨_,N⟩,.inr ⟨_,_,trivial,R⟩⟩
 have F:=ap (0<=i);have h:j=0:=aA s;clear g o f v d a
 gi_wp2
 refine xq (mb N _ _ _) N ?_;have a:=z.out;rw[h,g9,sx]at a;rw[a]at p;exact⟨⟨_,N⟩,.inl ⟨_,p⟩⟩
end
section
open Go.RowKit Go.Shelf
attribute [local go_sem] Oper.semAt_some
theorem Dd(h:jn w w a)(b:g<=w.heap.size):qm g w a:=⟨h.size,λk o _ hk _=>(h.block k (jO.1 hk).1).trans hk⟩
theorem BQ(a k:I)(ha:a<PN)(hk:k<18446744073709551616)(w:jc):
 js ji 156 #[A jk a,A jk k] w λe w'=>∃c:I,e=jq (A jk c)/\jl (c=a^k%PN)/\jn w w w':=by
 have M:bitLen k<=64:=by
  by_cases b:k=0
  ·subst b;decide
  have h:=(bitLen_spec k).2 b
  rcases qu 64 (bitLen k)with d|d
  ·have f:2^64<=2^(bitLen k-1):=tb G Y
   omega
  exact d
 obtain⟨n,z⟩:∃n,bitLen k=n:=⟨_,N⟩;rw[z]at M;have HP:=O (uk a k n (by rw[<-z];exact(bitLen_spec k).1));have HA:=O ha;refine(qn (n:=0)).1 ?_;refine xr func156 N trivial ?_ N;simp only[ntmps156,jZ,lw,qe,qf,qg,qh,qi,qj,qk,mT,j7]
 gi_wp2_with fail
 refine⟨trivial,N,(callsIn_wide.2 (Io _ _)).mono ?_⟩;rintro e w' ⟨rfl,rfl⟩
 gi_wp2_with fail
 obtain⟨d,b⟩:=J (((w.alloc (jj #[A jk a] 163)).alloc (jj #[A jk 1] 163)).alloc (jj #[A jk k] 163));have bA:jB d w.heap.size 163 (A jk a):=by rw[b];exact((Boxed.new w _ _).alloc _).alloc _
 have bC:jB d (w.heap.size+1) 163 (A jk (1:I)):=by
  have:=Boxed.new (w.alloc (jj #[A jk a] 163)) 163 (A jk (1:I));rw[km]at this;rw[b];exact this.alloc _
 have P:jB d (w.heap.size+1+1) 163 (A jk k):=by
  have:=Boxed.new ((w.alloc (jj #[A jk a] 163)).alloc (jj #[A jk 1] 163)) 163 (A jk k);rw[km,km]at this;rw[b];exact this
 have bB:jn w w d:=by rw[b];exact(((jK _ w).alloc (jA _) _).alloc ax _).alloc (by simp;omega) _
 have bb:w.heap.size+3<=d.heap.size:=by rw[b];simp
 rw[<-b];clear b;refine o5 (n:=0) (gf:=239) (lb:=#[jG (ja ⟨w.heap.size+1+1,0,jd⟩)]) N (enters_of func239 ag N)
  (He k n hk z M (w.heap.size+1+1) d P) (p6 _) (λ_=>rfl) (by rintro k rfl;exact P.lt)
  (λf Ψ W=>(jB W (w.heap.size+1) 163 (A jk (pwL a f:I))/\¬Ψ (w.heap.size+1))/\(jB W w.heap.size 163 (A jk a)/\¬Ψ w.heap.size)/\(jn w w W/\∀k,Ψ k->w.heap.size<=k))
  (λ_ _ _ _=>False)
  ((iy d.heap.size (w.heap.size+1) 163 (λf=>jb .u64 (pwL a f:I))).and ((iy _ _ _ (λ_=>_)).and (l9 _ _ w (jA _) Y)))
  (λ_=>fA _ _)
  ⟨⟨bC,by omega⟩,⟨bA,by omega⟩,bB,by rintro k rfl;omega⟩
  (λx Q _ _=>Q={tmps:=#[A jk a,A jk k,jG (ja ⟨w,0,jd⟩),jE,A jk 0,jG (ja ⟨w.heap.size+1,0,jd⟩),.bool x,A jk k,
   .func (.func 239) #[] #[jG (ja ⟨w.heap.size+1+1,0,jd⟩)],.bool x,jE,jE,jE,jE,jE,jE,jE,jE],defers:=[]}) (fA _ _)
  ?assign ?body ?done ?stop
 case assign=>
  intro l f x Ψ q K b _ B
  gi_wp2
  exact B _ _ (jK _ _) b N
 case body=>
  rintro l f x Ψ Q q ⟨⟨g,r⟩,⟨K,R⟩,s,C⟩ rfl _ S U Zr;have b:=Nq a f;have i:=ww a f x;generalize pwL a f=c at g b i;have hc:=g.cell;have bc:=g.frozen;have m:=O (zf c c b b);have V:=O i;have X:=O s;clear i b s
  gi_wp2_with fail
  refine⟨trivial,N,(CallsIn.inRound l (callsIn_wide.2 (m _))).mono ?_⟩;rintro e i ⟨b,rfl,D,j⟩;have E:jB i (w.heap.size+1) 163 (A jk c):=(j.block _ g.lt).trans g;have aa:jB i w.heap.size 163 (A jk a):=(j.block _ K.lt).trans K;have u:jB (i.setCell ⟨w.heap.size+1,0,jd⟩ (A jk b)) (w.heap.size+1) 163 (A jk b):=E.set _;have v:jB (i.setCell ⟨w.heap.size+1,0,jd⟩ (A jk b)) w.heap.size 163 (A jk a):=aa.other Y _;have o:qm d.heap.size q i:=Dd j U;have t:=O (o.trans ((KeepsOthers.setCell i ⟨w.heap.size+1,0,jd⟩ (A jk b)).from _));have y:=O (tx (j.mono (show w.heap.size<=q.heap.size by omega)) (p:=⟨w.heap.size+1,0,jd⟩) ax (A jk b));have F:jl (∀k,Ψ k->(i.setCell ⟨w.heap.size+1,0,jd⟩ (A jk b)).heap[k]?=q.heap[k]?):=λk hk=>by
   rw[ow _ _ _ _ (by rintro rfl;exact r hk)];exact j.block _ (S k hk)
  have SQ:=E.cell;have ad:=E.frozen;clear o j m
  cases x
  ·gi_wp2
   refine⟨⟨t,y.mono (p6 _),F⟩,⟨?_,r⟩,⟨v,R⟩,X.trans y,C⟩;have e:(if jw=jg then c*c%PN*a%PN else c*c%PN)=b:=by rw[jS G,D]
   rw[V,e];exact u
  have al:b<PN:=by rw[D];exact qC _ (by rw[dX];decide)
  have Yn:=O (zf b a al HA);obtain⟨A2,j⟩:=J (i.setCell ⟨w.heap.size+1,0,jd⟩ (A jk b));have au:=O j;have m:=aa.cell;clear j
  gi_wp2_with fail
  rw[<-au]at u v t y F⊢;clear SQ ad m;refine⟨trivial,N,(CallsIn.inRound l (callsIn_wide.2 (Yn _))).mono ?_⟩;rintro e m ⟨j,rfl,R3,o⟩;have H:jB m (w.heap.size+1) 163 (A jk b):=(o.block _ u.lt).trans u;have a1:jB m w.heap.size 163 (A jk a):=(o.block _ v.lt).trans v;have a2:jB (m.setCell ⟨w.heap.size+1,0,jd⟩ (A jk j)) (w.heap.size+1) 163 (A jk j):=H.set _;have a3:jB (m.setCell ⟨w.heap.size+1,0,jd⟩ (A jk j)) w.heap.size 163 (A jk a):=a1.other Y _;have a4:d.heap.size<=A2.heap.size:=oi U t.size;have a5:=O ((t.trans (Dd o a4)).trans ((KeepsOthers.setCell m ⟨w.heap.size+1,0,jd⟩ (A jk j)).from _));have RO:=O (y.trans (tx (o.mono (show w.heap.size<=A2.heap.size by omega)) (p:=⟨w.heap.size+1,0,jd⟩) ax (A jk j)));have ba:jl (∀k,Ψ k->(m.setCell ⟨w.heap.size+1,0,jd⟩ (A jk j)).heap[k]?=q.heap[k]?):=λk hk=>by
   rw[ow _ _ _ _ (by rintro rfl;exact r hk)];exact(o.block _ (ql (S k hk) t.size)).trans (F k hk)
  have SQ:=H.cell;have ad:=H.frozen;clear o Yn
  gi_wp2
  refine⟨⟨a5,RO.mono (p6 _),ba⟩,⟨?_,r⟩,⟨a3,R⟩,X.trans RO,C⟩;have e:∀(p:Prop) [Decidable p],p->(if p then c*c%PN*a%PN else c*c%PN)=j:=λp _ h=>by rw[jU h,R3,D]
  rw[V,e _ (by trivial)];exact a2
 case done=>
  rintro D xs Ψ W i rfl ⟨⟨g,r⟩,-,s,C⟩ B;rw[HP]at g;have hc:=g.cell;have b:=O s;clear s
  gi_wp2
  refine⟨by simp,.inl ⟨_,_,N,qo B,?_⟩⟩;exact⟨_,results_tmp N _ _ _,_,N,O N,b.trans (iO Y)⟩
 intro D c f Ψ W _ _ h;exact h.elim
end
theorem PI(c a b m:I)(h:b%2=1):((c+a)%m+(a+a)%m*(b/2))%m=(c+a*b)%m:=by
 obtain⟨q,d⟩:∃q,b=2*q+1:=⟨b/2,by omega⟩;subst d;rw[show(2*q+1)/2=q by omega,qP,qE,lr,qE,<-lr,<-qP]
 congr 1
 rw[uy,sn,qO,qM,uy];omega
theorem QA(c a b m:I)(h:b%2=0):(c+(a+a)%m*(b/2))%m=(c+a*b)%m:=by
 obtain⟨q,d⟩:∃q,b=2*q:=⟨b/2,by omega⟩;subst d;rw[show(2*q)/2=q by omega,qP,lr,qE,<-lr,<-qP]
 congr 1
 rw[qO,qM,uy]
theorem I7(c a k m:I)(h:k%2=1):(c*a%m)*(a*a%m)^(k/2)%m=c*a^k%m:=by
 obtain⟨q,b⟩:∃q,k=2*q+1:=⟨k/2,by omega⟩;subst b;rw[show(2*q+1)/2=q by omega,lr,qE,<-Nat.pow_mod,<-lr]
 congr 1
 rw[mF,Nat.pow_mul,Nat.pow_two,qD,j6 a]
theorem Mh(c a k m:I)(h:k%2=0):c*(a*a%m)^(k/2)%m=c*a^k%m:=by
 obtain⟨q,b⟩:∃q,k=2*q:=⟨k/2,by omega⟩;subst b;rw[show(2*q)/2=q by omega,lr,<-Nat.pow_mod,<-lr,Nat.pow_mul,Nat.pow_two]
def QN:I:=2305843009213688669
def aW(n:T):Prop:=1<=n/\n<4611686018427377339/\n.toNat^QN%PN=1
noncomputable def b7(n:T):T:=by classical exact if aW n then 0 else 40
theorem eG{j:T}(h:aW j):b7 j=0:=by unfold b7;rw[jU h]
theorem fJ{n:T}(h:¬aW n):b7 n=40:=by unfold b7;rw[jS h]
theorem Kd(a:I)(b:a<PN)(w:jc):
 js ji 156 #[A jk a,A jk 2305843009213688669] w λe w'=>∃c:I,e=jq (A jk c)/\jl (c=a^QN%PN)/\jn w w w':=by
 have h:=BQ a QN b (by unfold QN;decide) w;rw[show((QN:I):T)=2305843009213688669 from N]at h;exact h
theorem fO(n:T)(w:jc):
 js ji 82 #[A jf n] w λe w'=>e=jq (A jf (b7 n))/\jn w w w':=by
 by_cases q:n<1
 ·have i:=ao (n<1)
  have b:=O (fJ (n:=n) (λh=>by unfold aW at h;omega))
  go_enter func82,ntmps82
  go_wp2
  go_ret;exact⟨by rw[b];rfl,jK _ _⟩
 have i:=ap (n<1)
 by_cases r:4611686018427377339<=n
 ·have j:=ao (4611686018427377339<=n)
  have b:=O (fJ (n:=n) (λh=>by unfold aW at h;omega))
  go_enter func82,ntmps82
  go_wp2
  go_ret;exact⟨by rw[b];rfl,jK _ _⟩
 have j:=ap (4611686018427377339<=n);obtain⟨m,rfl⟩:=sv (show 0<=n by omega);have k:=O (Kd m (by rw[dX];omega));have b:jl (m^QN%PN=1->b7 m=0):=O λh=>eG ⟨by omega,by omega,by rw[qF];exact h⟩
 have l:jl (m^QN%PN≠1->b7 m=40):=O λh=>fJ (λg=>h (by have:=g.2.2;rwa [qF]at this))
 go_enter func82,ntmps82
 go_wp2_with fail
 refine(k _).mono ?_;rintro e s ⟨c,rfl,f,a⟩;have g:=O a;clear a
 by_cases a:c=1
 ·have o:((c:T)==1)=jg:=by rw[a];rfl
  have p:((c:T)!=1)=jw:=by rw[a];rfl
  have d:=O a;clear a
  go_wp2
  go_ret;exact⟨by rw[b.out (by rw[<-f,d])];rfl,g⟩
 have o:((c:T)==1)=jw:=by simpa using λh=>a Y
 have p:((c:T)!=1)=jg:=by simpa using λh=>a Y
 have d:=O a;clear a
 go_wp2
 go_ret;exact⟨by rw[l.out (by rw[<-f];exact d)];rfl,g⟩
theorem uY(a b m:I)(g:a<m)(i:b<m)(j:m<4611686018427387904)(w:jc):
 js ji 208 #[A jf a,A jf b,A jf m] w λe w'=>∃c:I,e=jq (A jf c)/\c<m/\jl (c=(a+b)%m)/\w=w':=by
 by_cases h:m<=a+b
 ·have f:=ao ((m:T)<=(a:T)+(b:T))
  have d:jl (a+b-m=(a+b)%m):=O (by rw[Nat.mod_eq_sub_mod h,jX Y])
  go_enter func208,ntmps208
  go_wp2
  go_ret;exact⟨a+b-m,jD (λz=>Ending.returned (A jf z)) Y,by omega,d,rfl⟩
 have f:=ap ((m:T)<=(a:T)+(b:T));have d:jl (a+b=(a+b)%m):=O (by rw[jX Y])
 go_enter func208,ntmps208
 go_wp2
 go_ret;exact⟨a+b,jD (λz=>Ending.returned (A jf z)) Y,by omega,d,rfl⟩
theorem Jb(a b m:I)(h:a<m)(l:b<=9223372036854775807)(j:m<4611686018427387904)(w:jc):
 js ji 159 #[A jf a,A jf b,A jf m] w λe w'=>∃c:I,e=jq (A jf c)/\c<m/\jl (c=a*b%m)/\w=w':=by
 go_enter func159,ntmps159
 go_wp2
 go_loop [0,1,7] (λi g k=>∃f d c:I,i=A jf f/\g=A jf d/\k=A jf c/\f<m/\d<=9223372036854775807/\c<m/\jl ((c+f*d)%m=a*b%m)) (λ_ g _=>(jy g).toNat)
 case atStart=>exact⟨a,b,0,N,N,N,h,l,by omega,O (by rw[kn])⟩
 obtain⟨f,d,c,rfl,rfl,rfl,g,y,i,k⟩:=hrel;clear h l
 by_cases z:0<d
 ·have r:=ao ((0:T)<(d:T))
  have s:=ao (0<d)
  rcases qN d with h|h
  ·have t:((d:T)%2==1)=jw:=by simp;omega
   have l:=O (uY f f m g g j);have n:=O (QA c f d m h);clear h
   go_wp2_with fail
   refine(l _).mono ?_;rintro e w' ⟨o,rfl,p,q,rfl⟩
   go_wp2
   refine⟨⟨o,d/2,c,N,jD (jb .i64) Y,N,p,by omega,i,O ?_⟩,by simp only[jy];omega⟩;rw[q,n,k]
  have t:((d:T)%2==1)=jg:=by simp;omega
  have u:=O (uY c f m i g j);have l:=O (uY f f m g g j);have n:=O (PI c f d m h);clear h
  go_wp2_with fail
  refine(u _).mono ?_;rintro e w' ⟨h,rfl,v,x,rfl⟩
  go_wp2_with fail
  refine(l _).mono ?_;rintro e w' ⟨o,rfl,p,q,rfl⟩
  go_wp2
  refine⟨⟨o,d/2,h,N,jD (jb .i64) Y,N,p,by omega,v,O ?_⟩,by simp only[jy];omega⟩;rw[x,q,n,k]
 have r:=ap ((0:T)<(d:T));have s:=ap (0<d);have l:d=0:=Y;have n:jl (c=a*b%m):=O (by have h:=k.out;rw[l,Nat.mul_zero,Nat.add_zero,jX i]at h;exact h);clear l
 go_wp2
 go_ret;exact⟨c,N,i,n,N⟩
theorem Bl(a b:I)(d:a<PN)(f:b<PN)(w:jc):
 js ji 159 #[A jf a,A jf b,A jf 4611686018427377339] w λe w'=>∃c:I,e=jq (A jf c)/\c<PN/\jl (c=a*b%PN)/\w=w':=by
 rw[dX]at d f;have h:=Jb a b 4611686018427377339 d Y G w;rw[dX];exact h
theorem Pt(a k:I)(h:a<PN)(hk:k<=9223372036854775807)(w:jc):
 js ji 88 #[A jf a,A jf k] w λe w'=>∃c:I,e=jq (A jf c)/\c<PN/\jl (c=a^k%PN)/\w=w':=by
 have l:1<PN:=by rw[dX];decide
 go_enter func88,ntmps88
 go_wp2
 go_loop [0,1,5] (λg f i=>∃d b c:I,g=A jf d/\f=A jf b/\i=A jf c/\d<PN/\b<=9223372036854775807/\c<PN/\jl (c*d^b%PN=a^k%PN)) (λ_ f _=>(jy f).toNat)
 case atStart=>exact⟨a,k,1,N,N,N,h,hk,l,O (by rw[sq])⟩
 obtain⟨d,b,c,rfl,rfl,rfl,f,v,g,i⟩:=hrel;have n:=O (Bl d d f f);have o:=O (Bl c d g f);have x:=O f;have j:=O g;clear h hk f g l
 by_cases y:0<b
 ·have p:=ao ((0:T)<(b:T))
  have q:=ao (0<b)
  rcases qN b with f|f
  ·have r:((b:T)%2==1)=jw:=by simp;omega
   have g:=O (Mh c d b PN f);clear f
   go_wp2_with fail
   refine(n _).mono ?_;rintro e w' ⟨h,rfl,l,m,rfl⟩
   go_wp2
   refine⟨⟨h,b/2,c,N,jD (jb .i64) Y,N,l,by omega,j,O ?_⟩,by simp only[jy];omega⟩;rw[m,g,i]
  have r:((b:T)%2==1)=jg:=by simp;omega
  have g:=O (I7 c d b PN f);clear f
  go_wp2_with fail
  refine(o _).mono ?_;rintro e w' ⟨s,rfl,f,t,rfl⟩;have u:=O f;clear f
  go_wp2_with fail
  refine(n _).mono ?_;rintro e w' ⟨h,rfl,l,m,rfl⟩
  go_wp2
  refine⟨⟨h,b/2,s,N,jD (jb .i64) Y,N,l,by omega,u,O ?_⟩,by simp only[jy];omega⟩;rw[t,m,g,i]
 have p:=ap ((0:T)<(b:T));have q:=ap (0<b);have f:b=0:=Y;have g:jl (c=a^k%PN):=O (by have h:=i.out;rw[f,Nat.pow_zero,sn,jX j]at h;exact h);clear f
 go_wp2
 go_ret;exact⟨c,N,j,g,N⟩
theorem NT(a:I)(b:a<PN)(w:jc):
 js ji 88 #[A jf a,A jf 2305843009213688669] w λe w'=>∃c:I,e=jq (A jf c)/\c<PN/\jl (c=a^QN%PN)/\w=w':=by
 have h:=Pt a QN b (by unfold QN;decide) w;rw[show((QN:I):T)=2305843009213688669 from N]at h;exact h
theorem ON(n:T)(w:jc):
 js ji 30 #[A jf n] w λe w'=>e=jq (A jf (b7 n))/\w=w':=by
 by_cases p:n<1
 ·have i:=ao (n<1)
  have b:=O (fJ (n:=n) (λh=>by unfold aW at h;omega))
  go_enter func30,ntmps30
  go_wp2
  go_ret;exact⟨by rw[b];rfl,rfl⟩
 have i:=ap (n<1)
 by_cases q:4611686018427377339<=n
 ·have j:=ao (4611686018427377339<=n)
  have b:=O (fJ (n:=n) (λh=>by unfold aW at h;omega))
  go_enter func30,ntmps30
  go_wp2
  go_ret;exact⟨by rw[b];rfl,rfl⟩
 have j:=ap (4611686018427377339<=n);obtain⟨m,rfl⟩:=sv (show 0<=n by omega);have k:=O (NT m (by rw[dX];omega));have b:jl (m^QN%PN=1->b7 m=0):=O λh=>eG ⟨by omega,by omega,by rw[qF];exact h⟩
 have l:jl (m^QN%PN≠1->b7 m=40):=O λh=>fJ (λg=>h (by have:=g.2.2;rwa [qF]at this))
 go_enter func30,ntmps30
 go_wp2_with fail
 refine(k _).mono ?_;rintro e r ⟨c,rfl,-,f,rfl⟩
 by_cases a:c=1
 ·have g:((c:T)==1)=jg:=by rw[a];rfl
  have o:((c:T)!=1)=jw:=by rw[a];rfl
  have d:=O a;clear a
  go_wp2
  go_ret;exact⟨by rw[b.out (by rw[<-f,d])];rfl,rfl⟩
 have g:((c:T)==1)=jw:=by simpa using λh=>a Y
 have o:((c:T)!=1)=jg:=by simpa using λh=>a Y
 have d:=O a;clear a
 go_wp2
 go_ret;exact⟨by rw[l.out (by rw[<-f];exact d)];rfl,rfl⟩
section
variable{i:I}
section
variable {P:jI} {ops:jt jz} {Q:jV->Act->jc->Prop} {md:Region.Mode} {S:jc->Prop}
inductive bJ where
 |done:bJ
 |t (i:I) (r:bJ):bJ
 |o (i:I) (r:bJ):bJ
 |w (i j:I) (x y:bJ):bJ
 |float (i:I) (ks:je I) (r:bJ):bJ
def bJ.len:bJ->I
 | .done=>0
 | .t _ r=>r.len+1
 | .o _ r=>r.len+1
 | .w _ _ x y=>max x.len y.len+1
 | .float _ a r=>a.length+r.len+1
def vy(ops:jt jz)(i k:I):jv:=
 match ops[i]?,ops[k]? with
 |some a,ja ok=>a.apart ops ok
 |_,_=>jw
def uL(md:Region.Mode)(ops:jt jz)(i:I)(r:jt jv->jv):je I->jt jv->jv
 |[],a=>r a
 |k::b,a=>Region.ready md ops a==[k]&&vy ops i k&&uL md ops i r b (a.setIfInBounds k jg)
def rC(md:Region.Mode)(ops:jt jz)(i:I)(r:jt jv->jv):je I->jt jv->jv
 |[],a=>Region.ready md ops a==[i]&&r (a.setIfInBounds i jg)
 |k::b,a=>(Region.ready md ops a==[i,k]||Region.ready md ops a==[k,i])&&rC md ops i r b (a.setIfInBounds k jg)&&uL md ops i r (k::b) (a.setIfInBounds i jg)
def gk(md:Region.Mode)(ops:jt jz):bJ->jt jv->jv
 | .done,a=>Region.ready md ops a==[]
 | .t i r,a=>Region.free md ops a i&&(Region.ready md ops a).contains i&&gk md ops r (a.setIfInBounds i jg)
 | .o i r,a=>Region.ready md ops a==[i]&&gk md ops r (a.setIfInBounds i jg)
 | .w i j x y,a=>Region.ready md ops a==[i,j]&&gk md ops x (a.setIfInBounds i jg)&&gk md ops y (a.setIfInBounds j jg)
 | .float i b r,a=>rC md ops i (gk md ops r) b a
def bJ.tail(f:I):bJ->jv
 | .done=>jg
 | .o i r=>decide (f<=i)&&r.tail f
 |_=>jw
def bJ.waits(md:Region.Mode)(ops:jt jz)(f:I):bJ->jv
 | .done=>jg
 | .t i r=>yY md ops f i&&r.waits md ops f
 | .o _ r=>r.waits md ops f
 | .w _ _ x y=>x.waits md ops f&&y.waits md ops f
 | .float _ _ r=>r.waits md ops f
def kf(P:jI)(ops:jt jz)(Q:jV->Act->jc->Prop)(S:jc->Prop)(f:I):bJ->Act->jc->Prop
 | .done,a,w=>Q .normal a w
 | .t i r,a,w=>∃o v,ops[i]?=ja o/\fs P ops S o v a/\kf P ops Q S f r (a.put o.dst v) w
 | .o i r,a,w=>jM P ops Q i (λb w'=>(f<=i/\r.tail f=jg/\kf P ops Q S f r b w')\/(S w'/\(S w'->kf P ops Q S f r b w'))) a w
 | .w i j x y,a,w=>jM P ops Q i (λb w'=>(f<=i/\x.tail f=jg/\kf P ops Q S f x b w')\/(S w'/\(S w'->kf P ops Q S f x b w'))) a w/\jM P ops Q j (λb w'=>(f<=j/\y.tail f=jg/\kf P ops Q S f y b w')\/(S w'/\(S w'->kf P ops Q S f y b w'))) a w
 | .float i e r,a,w=>∃(o:jz) (c:I->Act->jc->jC jh->Prop),ops[i]?=ja o/\c 0 a w jd/\(∀j a w d,c j a w d->S w)/\
  (∀(j k:I),e[j]?=ja k->∀a w d,c j a w d->jM P ops Q k (λb w'=>c (j+1) b w' d) a w)/\
  (∀j,j<=e.length->∀a w,c j a w jd->jM P ops Q i (λb w'=>∃v,b=a.put o.dst v/\c j a w' (ja v)) a w)/\
  (∀a w v,c e.length a w (ja v)->kf P ops Q S f r (a.put o.dst v) w)
def eh(P:jI)(ops:jt jz)(Q:jV->Act->jc->Prop)(S:jc->Prop):bJ->Act->jc->Prop
 | .done,a,w=>Q .normal a w
 | .t i r,a,w=>∃o v,ops[i]?=ja o/\fs P ops S o v a/\eh P ops Q S r (a.put o.dst v) w
 | .o i r,a,w=>jM P ops Q i (λb w'=>S w'/\(S w'->eh P ops Q S r b w')) a w
 | .w i j x y,a,w=>jM P ops Q i (λb w'=>S w'/\(S w'->eh P ops Q S x b w')) a w/\jM P ops Q j (λb w'=>S w'/\(S w'->eh P ops Q S y b w')) a w
 | .float i e r,a,w=>∃(o:jz) (c:I->Act->jc->jC jh->Prop),ops[i]?=ja o/\c 0 a w jd/\(∀j a w d,c j a w d->S w)/\
  (∀(j k:I),e[j]?=ja k->∀a w d,c j a w d->jM P ops Q k (λb w'=>c (j+1) b w' d) a w)/\
  (∀j,j<=e.length->∀a w,c j a w jd->jM P ops Q i (λb w'=>∃v,b=a.put o.dst v/\c j a w' (ja v)) a w)/\
  (∀a w v,c e.length a w (ja v)->eh P ops Q S r (a.put o.dst v) w)
theorem eh.toF:∀(t:bJ) (a:Act) (w:jc),eh P ops Q S t a w->kf P ops Q S i t a w
 | .done,_,_,h=>h
 | .t f r,a,w,⟨o,v,c,d,e⟩=>⟨o,v,c,d,toF r _ _ e⟩
 | .o f r,a,w,h=>j5 (λg w' h=>.inr ⟨h.1,λb=>toF r _ _ (h.2 b)⟩) h
 | .w f j x y,a,w,h=>⟨j5 (λg w' h=>.inr ⟨h.1,λb=>toF x _ _ (h.2 b)⟩) h.1,j5 (λg w' h=>.inr ⟨h.1,λb=>toF y _ _ (h.2 b)⟩) h.2⟩
 | .float f m r,a,w,⟨o,b,c,d,e,g,k,l⟩=>⟨o,b,c,d,e,g,k,λa w v h=>toF r _ _ (l a w v h)⟩
theorem Lk{j:I}{i g:jz}{v:jh}(s:ops[j]?=ja g)(t:i.apart ops g=jg)(p:∀cs b,g.op≠.select cs b)
 (q:∀c a e w,Q (.panic c) a w->Q (.panic c) e w) {K:Act->jc->Prop} {a:Act} {w:jc} (h:jM P ops Q j K a w):
 jM P ops Q j (λk w'=>∃e,k=e.put i.dst v/\K e w') (a.put i.dst v) w:=by
 obtain⟨m,k,z⟩:=Oper.apart_spec t;unfold jM at*;simp only[s]at*;rw[wanted_put g a i.dst v m]
 split
 ·rename_i o
  simp only[o,if_true]at h
  rcases h with h|⟨u,y⟩
  case inr=>exact .inr ⟨by unfold Oper.asks at*;rw[execOp_put g p a i.dst v m];exact u,y⟩
  refine .inl ?_;unfold Oper.wp at*;rw[execOp_put g p a i.dst v m];generalize(jY a.eval g).run P w=r at*
  cases r with
  |ok n w'=>
   cases n<;>simp only[Oper.upon]at h⊢
   case value l=>exact⟨_,Act.put_comm a v l k,h⟩
   case skip=>exact⟨_,Act.put_comm a v jE k,h⟩
   case defer d=>
    exact⟨_,(jD (λb=>Act.put b g.dst jE) (Act.put_defers a i.dst v d)).trans (Act.put_comm _ v jE k),h⟩
   case enter f args=>
    refine Calls.mono h λe b he=>?_
    cases e with
    |returned l=>exact⟨_,Act.put_comm a v l k,he⟩
    |panicked c=>exact q _ _ _ _ he
    |outgrown=>exact he
   case row row args=>exact Rows.mono h λl b he=>⟨_,Act.put_comm a v l k,he⟩
  |halt x w'=>
   cases x<;>simp only[Oper.upon]at h⊢
   case panic l=>exact q _ _ _ _ h
 rename_i o;simp only[o]at h;exact⟨_,Act.put_comm a v jE k,h⟩
theorem MH{k:I}{a:jz}(b:ops[i]?=ja a)(h:vy ops i k=jg):∃ok,ops[k]?=ja ok/\a.apart ops ok=jg:=by
 unfold vy at h;rw[b]at h
 cases hk:ops[k]? with
 |none=>rw[hk]at h;cases h
 |some ok=>rw[hk]at h;exact⟨ok,N,h⟩
theorem BV(t:Region.noSelect ops=jg)(u:∀c a g w,Q (.panic c) a w->Q (.panic c) g w){f i:I}{o:jz}(y:ops[i]?=ja o){r:jt jv->jv}{n z:I}{l:I->Act->jc->jC jh->Prop}
 (B:∀j a w d,l j a w d->S w) (C:∀fuel c a w v,z<=fuel->r c=jg->l n a w (ja v)->gC P md ops Q S f fuel c (a.put o.dst v) w):
 ∀(e:je I) (j fuel:I) (c:jt jv) (a:Act) (w:jc) (v:jh),e.length+z<=fuel->uL md ops i r e c=jg->j+e.length=n->
  (∀(m k:I),e[m]?=ja k->∀a w d,l (j+m) a w d->jM P ops Q k (λg w'=>l (j+m+1) g w' d) a w)->l j a w (ja v)->gC P md ops Q S f fuel c (a.put o.dst v) w
 |[],j,fuel,c,a,w,v,p,hk,q,_,s=>by
  obtain rfl:j=n:=ah q;exact C _ _ _ _ _ (ah p) hk s
 |k::e,j,fuel,c,a,w,v,p,hk,q,D,s=>by
  cases fuel with
  |zero=>simp at p
  |succ fuel=>
   simp only[uL,j1,beq_iff_eq]at hk;obtain⟨ok,E,H⟩:=MH y hk.1.2;refine λ_=>⟨λK=>(by rw[K]at hk;simp at hk),λx F=>?_⟩
   obtain rfl:x=k:=by rw[hk.1.1]at F;simpa using F
   refine j5 (λb w' M=>?_) (Lk (v:=v) E H (λcs b=>Region.noSelect_spec t x ok cs b E) u (D 0 x ax a w (ja v) s));obtain⟨g,rfl,b⟩:=M;refine⟨.inr (B _ _ _ _ b),BV t u y B C e (j+1) fuel _ g w' v (by simp at p;omega) hk.2 (by simp at q;omega) (λm k R a w d h=>?_) b⟩;have:=D (m+1) k (ah R) a w d (by rw[show j+(m+1)=j+1+m by omega];exact h);rw[show j+(m+1)=j+1+m by omega]at this;exact this
theorem Ah(E:Region.noSelect ops=jg)(F:∀c a d w,Q (.panic c) a w->Q (.panic c) d w){f i:I}{o:jz}(H:ops[i]?=ja o){r:jt jv->jv}{n K:I}{c:I->Act->jc->jC jh->Prop}
 (s:∀j a w l,c j a w l->S w) (y:∀fuel e a w v,K<=fuel->r e=jg->c n a w (ja v)->gC P md ops Q S f fuel e (a.put o.dst v) w)
 (z:∀j,j<=n->∀a w,c j a w jd->jM P ops Q i (λd w'=>∃v,d=a.put o.dst v/\c j a w' (ja v)) a w):
 ∀(g:je I) (j fuel:I) (e:jt jv) (a:Act) (w:jc),g.length+K+1<=fuel->rC md ops i r g e=jg->j+g.length=n->
  (∀(m k:I),g[m]?=ja k->∀a w l,c (j+m) a w l->jM P ops Q k (λd w'=>c (j+m+1) d w' l) a w)->c j a w jd->gC P md ops Q S f fuel e a w
 |[],j,fuel,e,a,w,p,hk,t,_,u=>by
  obtain rfl:j=n:=ah t
  cases fuel with
  |zero=>simp at p
  |succ fuel=>
   simp only[rC,j1,beq_iff_eq]at hk;refine λ_=>⟨λB=>(by rw[B]at hk;simp at hk),λx b=>?_⟩
   obtain rfl:x=i:=by rw[hk.1]at b;simpa using b
   refine j5 (λM w' q=>?_) (z j (jA _) a w u);obtain⟨v,rfl,h⟩:=q;exact⟨.inr (s _ _ _ _ h),y _ _ _ _ _ (by simp at p;omega) hk.2 h⟩
 |k::g,j,fuel,e,a,w,p,hk,t,C,u=>by
  cases fuel with
  |zero=>simp at p
  |succ fuel=>
   simp only[rC,j1,rv,beq_iff_eq]at hk;refine λ_=>⟨λB=>(by rw[B]at hk;simp at hk),λx b=>?_⟩
   have R:x=i\/x=k:=by
    rcases hk.1.1 with D|D
    ·rw[D]at b;simpa using b
    rw[D]at b;simp at b;exact b.symm
   rcases R with rfl|rfl
   ·refine j5 (λM w' q=>?_) (z j Y a w u)
    obtain⟨v,rfl,h⟩:=q;exact⟨.inr (s _ _ _ _ h),BV E F H s y (k::g) j fuel _ a w' v (by simp at p⊢;omega) hk.2 t C h⟩
   refine j5 (λd w' q=>?_) (C 0 x ax a w jd u);refine⟨.inr (s _ _ _ _ q),Ah E F H s y z g (j+1) fuel _ d w' (by simp at p;omega) hk.1.2 (by simp at t;omega) (λm k v a w l h=>?_) q⟩;have:=C (m+1) k (ah v) a w l (by rw[show j+(m+1)=j+1+m by omega];exact h);rw[show j+(m+1)=j+1+m by omega]at this;exact this
theorem kt{i:I}(p:Region.noSelect ops=jg)(q:∀c a z w,Q (.panic c) a w->Q (.panic c) z w):
 ∀(t:bJ) (fuel:I) (l:jt jv) (a:Act) (w:jc),t.len<=fuel->gk md ops t l=jg->t.waits md ops i=jg->(t.tail i=jg\/S w)->kf P ops Q S i t a w->gC P md ops Q S i fuel l a w
 | .done,fuel,l,a,w,_,hk,_,_,h=>by
  have b:Region.ready md ops l=[]:=by simpa [gk]using hk
  cases fuel with
  |zero=>exact⟨b,h⟩
  |succ n=>exact λ_=>⟨λ_=>h,λf d=>by rw[b]at d;cases d⟩
 | .t f r,fuel,l,a,w,e,hk,g,s,⟨o,v,B,D,h⟩=>by
  have s:S w:=s.resolve_left (by simp[bJ.tail]);simp only[bJ.waits,j1]at g
  cases fuel with
  |zero=>simp[bJ.len]at e
  |succ n=>
   simp only[gk,j1]at hk;refine ug B (Region.noSelect_spec p) (λc a d v w=>q c _ a w) n l a w (Region.free_spec B hk.1.1) (C6 g.1) (ah hk.1.2) D s (kt p q r n _ _ _ (by simp[bJ.len]at e;omega) hk.2 g.2 (.inr s) h)
 | .o f r,fuel,l,a,w,e,hk,g,s,h=>by
  cases fuel with
  |zero=>simp[bJ.len]at e
  |succ n=>
   simp only[gk,j1,beq_iff_eq]at hk;refine λ_=>⟨λC=>(by rw[C]at hk;simp at hk),λj c=>?_⟩
   obtain rfl:j=f:=by rw[hk.1]at c;simpa using c
   refine j5 (λz w' b=>?_) h
   rcases b with⟨d,m,u⟩|b
   ·exact⟨.inl d,kt p q r n _ _ _ (by simp[bJ.len]at e;omega) hk.2 g (.inl m) u⟩
   exact⟨.inr b.1,kt p q r n _ _ _ (by simp[bJ.len]at e;omega) hk.2 g (.inr b.1) (b.2 b.1)⟩
 | .w f k x y,fuel,l,a,w,e,hk,g,s,h=>by
  simp only[bJ.waits,j1]at g
  cases fuel with
  |zero=>simp[bJ.len]at e
  |succ n=>
   simp only[gk,j1,beq_iff_eq]at hk;refine λ_=>⟨λC=>(by rw[C]at hk;simp at hk),λj c=>?_⟩
   rw[hk.1.1]at c;have E:j=f\/j=k:=ah c
   rcases E with rfl|rfl
   ·refine j5 (λz w' b=>?_) h.1
    rcases b with⟨d,m,u⟩|b
    ·exact⟨.inl d,kt p q x n _ _ _ (by simp[bJ.len]at e;omega) hk.1.2 g.1 (.inl m) u⟩
    exact⟨.inr b.1,kt p q x n _ _ _ (by simp[bJ.len]at e;omega) hk.1.2 g.1 (.inr b.1) (b.2 b.1)⟩
   refine j5 (λz w' b=>?_) h.2
   rcases b with⟨d,m,u⟩|b
   ·exact⟨.inl d,kt p q y n _ _ _ (by simp[bJ.len]at e;omega) hk.2 g.2 (.inl m) u⟩
   exact⟨.inr b.1,kt p q y n _ _ _ (by simp[bJ.len]at e;omega) hk.2 g.2 (.inr b.1) (b.2 b.1)⟩
 | .float f c r,fuel,l,a,w,e,hk,g,s,⟨o,H,B,b,d,j,u,z⟩=>by
  have C:c.length+r.len+1<=fuel:=e;exact Ah (n:=c.length) p q B d (λfuel l a w v e hk b=>kt p q r fuel l _ _ e hk g (.inr (d _ _ _ _ b)) (z _ _ _ b)) u c 0 fuel l a w C hk Y (λm k E a w F h=>by rw[kn]at h⊢;exact j m k E a w F h) b
theorem GK{i:I}{a:Act}{w:jc}(S:jc->Prop)(f:I)(t:bJ)(d:P.follows .mixedOrders=jg)(e:Region.noSelect ops=jg)
 (hk:gk .any ops t (pa ops.size jw)=jg) (g:t.waits .any ops f=jg) (b:t.len<=ops.size) (j:∀c a h w,Q (.panic c) a w->Q (.panic c) h w)
 (c:S w.drew) (h:kf P ops Q S f t a w.drew):(Code.region i ops jg).wp P Q a w:=
 wp_region_any d (sw _ _ _ _ (ir.zero _) (kt e j t _ _ _ _ b hk g (.inr c) h))
theorem bJ.waits_size:∀t:bJ,t.waits md ops ops.size=jg
 | .done=>rfl
 | .t i r=>by
  simp only[bJ.waits,j1];refine⟨xz.2 λj a=>?_,waits_size r⟩;simp[xA.1 a]
 | .o _ r=>waits_size r
 | .w _ _ x y=>by simp only[bJ.waits,j1];exact⟨waits_size x,waits_size y⟩
 | .float _ _ r=>waits_size r
theorem GC{i:I}{a:Act}{w:jc}(S:jc->Prop)(t:bJ)(d:P.follows .mixedOrders=jg)(e:Region.noSelect ops=jg)
 (hk:gk .any ops t (pa ops.size jw)=jg) (f:t.len<=ops.size) (g:∀c a h w,Q (.panic c) a w->Q (.panic c) h w)
 (c:S w.drew) (h:eh P ops Q S t a w.drew):(Code.region i ops jg).wp P Q a w:=
 GK S ops.size t d e hk (bJ.waits_size t) f g c (eh.toF t _ _ h)
theorem Qc{o:jz}{a:jh}{r:bJ}{v:Act}{w:jc}(b:ops[i]?=ja o)(c:Region.wanted o (lo ops v.tmps)=jg)
 (d:∀w,S w->(jY v.eval o).run P w=.ok (.value a) w) (h:eh P ops Q S r (v.put o.dst a) w):eh P ops Q S (.t i r) v w:=
 ⟨o,a,b,.inl ⟨c,λw e=>.inl (d w e)⟩,h⟩
theorem Kq{o:jz}{r:bJ}{a:Act}{w:jc}(b:ops[i]?=ja o)(c:Region.wanted o (lo ops a.tmps)=jw)
 (h:eh P ops Q S r (a.put o.dst jE) w):eh P ops Q S (.t i r) a w:=
 ⟨o,jE,b,.inr ⟨c,rfl⟩,h⟩
theorem KN{o:jz}{r:bJ}{a:Act}{w:jc}(d:ops[i]?=ja o)
 (h:∀b:Act->jc->Prop,Shut (∀a w,S w->(S w->eh P ops Q S r a w)->b a w)->if Region.wanted o (lo ops a.tmps)=jg then Oper.wp P o a w b Q else b (a.put o.dst jE) w):
 eh P ops Q S (.o i r) a w:=
 wpOp_step d λb e=>h b (λa w c f=>e a w ⟨c,λ_=>f c⟩)
theorem Qv{o:jz}{a:jh}{r:bJ}{v:Act}{w:jc}{f:FuncId}{args:jt jh}(b:ops[i]?=ja o)(c:Region.wanted o (lo ops v.tmps)=jg)
 (he:∀w,(jY v.eval o).run P w=.ok (.enter f args) w) (d:∀w,S w->js P f args w λe w'=>e=jq a/\w'=w) (h:eh P ops Q S r (v.put o.dst a) w):eh P ops Q S (.t i r) v w:=
 ⟨o,a,b,.inl ⟨c,λw e=>.inr ⟨f,args,he w,d w e⟩⟩,h⟩
theorem QP{j:I}{x y:bJ}{a:Act}{w:jc}(b:eh P ops Q S (.o i x) a w)(c:eh P ops Q S (.o j y) a w):eh P ops Q S (.w i j x y) a w:=
 ⟨b,c⟩
end
end
section
def cO(w:jc)(v:jh)(sz n:I)(xs:je jh):Prop:=
 xs.length=n*sz/\∃(p:jC jR) (c:I),v=ju p n c/\n<=c/\(p=jd->c=0)/\
  (0<n->∃g o,p=ja ⟨g,o,jd⟩/\∀(j:I) a,xs[j]?=ja a->w.cell? ⟨g,o+j,jd⟩=ja a)
theorem fb{w:jc}{a:jR}{b:jh}(h:w.cell? a=ja b):a.block<w.heap.size:=by
 unfold j8 at h
 cases hb:w.heap[a.block]? with
 |none=>simp[hb]at h
 |some x=>exact(jO.1 hb).1
theorem cO.below{w w':jc}{v:jh}{sz n:I}{xs:je jh}(h:cO w v sz n xs)(f:jn w w w'):cO w' v sz n xs:=by
 obtain⟨i,p,c,rfl,k,l,m⟩:=h;refine⟨i,p,c,N,k,l,λq=>?_⟩;obtain⟨g,o,e,a⟩:=m q;exact⟨g,o,e,λj b d=>by rw[f.cell (p:=⟨g,o+j,jd⟩) (fb (a j b d))];exact a j b d⟩
theorem cO.of_own{w:jc}{B sz n:I}{e:jr}{v:jh}{xs:je jh}(h:w.ownsRow B e sz v n xs):cO w v sz n xs:=by
 refine⟨h.1,?_⟩
 rcases h.2 with⟨rfl,b⟩|⟨g,c,k,rfl,l,d,f,m,o,i⟩
 ·have j:n=0:=by
   first
    |exact b
    |(have a:=h.1;rw[b]at a;simp at a;omega)
  subst j;exact⟨jd,0,N,jA _,λ_=>rfl,λa=>by omega⟩
 refine⟨ja ⟨g,0,jd⟩,c,N,f,λe=>by simp at e,λ_=>⟨g,0,rfl,λj p a=>?_⟩⟩;have q:j<xs.length:=(m0.1 a).1;rw[<-i]at a;rw[List.getElem?_take]at a
 split at a
 ·simp only[j8,d]
  simpa using a
 cases a
theorem B6(g o j:I):(⟨g,o,jd⟩:jR).add j=⟨g,o+j,jd⟩:=by unfold Addr.add;split<;>simp_all
section
variable {P:jI}
theorem OL(w:jc)(base:I)(t f e:jr)(i:TypeInfo)(z:jh)(size h:I)(l:P.underlying t=ja (.slice e))(q:P.info? e=ja i)(x:i.zero=ja z)
 (y:i.size=size) (B:i.bytes=h) (C:z.cells.size=size) (D:0<size)
 (v:jh) (n:I) (xs:je jh) (k:w.ownsRow base e size v n xs) (a:jh) (m:I) (b:je jh) (E:cO w a size m b) (F:∀a∈b,a.oneCell'=jg)
 (H:n+m<=j0) (K:(n+m)*h<=140737488355328) (M:base<=w.heap.size):
 ∃d w',(Builtin.append_ #[t,t] f #[v,a]).run P w=.ok d w'/\w'.ownsRow base e size d (n+m) (xs++b)/\w.grownBy w' v.ownBlock:=by
 obtain⟨r,p,c,rfl,X,Q,R⟩:=E
 rcases p with _|s
 ·have g:=Q N
  subst g;obtain rfl:m=0:=Y;obtain rfl:b=[]:=wi Y;exact⟨v,w,run_append_owned_none (P:=P) (w:=w) base t f e i size l q v n xs k,by simpa using k,qQ.refl _ _⟩
 have S:∀(j:I) a,b[j]?=ja a->w.cell? (s.add j)=ja a:=?_
 ·obtain⟨d,w',g,o,u,_⟩:=run_append_own (P:=P) w base t f e i z size h l q x y B C D v n xs k s m c b r S F H K M
  exact⟨d,w',g,o,u⟩
 intro j a u;have U:=(m0.1 u).1;have V:0<m:=by
  rcases pz m with g|g
  ·rw[r,g]at U;omega
  exact g
 obtain⟨g,o,e,W⟩:=R V;obtain rfl:=wq.inj e;rw[B6];exact W j a u
theorem Gk{w:jc}{o:jz}{a:Act}{K:Act->jc->Prop}{g:jV->Act->jc->Prop}(s x:lm)(t:jr)
 (j:o.op=.call {callee:=.builtin .append,args:=#[s,x],argTypes:=#[t,t]})
 (base:I) (e:jr) (i:TypeInfo) (z:jh) (size f:I) (k:P.underlying t=ja (.slice e)) (l:P.info? e=ja i) (p:i.zero=ja z)
 (q:i.size=size) (r:i.bytes=f) (u:z.cells.size=size) (y:0<size)
 (v:jh) (n:I) (xs:je jh) (B:a.eval s=v) (C:w.ownsRow base e size v n xs) (b:jh) (m:I) (c:je jh) (D:a.eval x=b) (E:cO w b size m c) (F:∀b∈c,b.oneCell'=jg)
 (H:n+m<=j0) (M:(n+m)*f<=140737488355328) (Q:base<=w.heap.size)
 (h:∀d w',w'.ownsRow base e size d (n+m) (xs++c)->w.grownBy w' v.ownBlock->K (a.put o.dst d) w'):o.wp P a w K g:=by
 obtain⟨d,w',R,S,U⟩:=OL (P:=P) w base t o.type e i z size f k l p q r u y v n xs C b m c E F H M Q;unfold Oper.wp jY;simp only[j,resolve,invoke,builtin,Sem.run_bind,Sem.run_pure,Result.andThen_ok,wt,qS,wx,B,D,R];exact h d w' S U
theorem K8(w:jc)(base:I)(t f e:jr)(i:TypeInfo)(z:jh)(size h:I)(l:P.underlying t=ja (.slice e))(q:P.info? e=ja i)(x:i.zero=ja z)
 (y:i.size=size) (B:i.bytes=h) (C:z.cells.size=size) (D:0<size)
 (v:jh) (n:I) (xs:je jh) (k:w.ownsRow base e size v n xs) (a:jh) (m:I) (b:je jh) (E:cO w a size m b) (F:∀a∈b,a.oneCell'=jg)
 (H:n+m<=j0) (K:(n+m)*h<=140737488355328) (M:base<=w.heap.size):
 ∃d w',(Builtin.append_ #[t,t] f #[v,a]).run P w=.ok d w'/\w'.ownsRow base e size d (n+m) (xs++b)/\w.grownBy w' v.ownBlock/\(d.ownBlock=v.ownBlock\/d.ownBlock=ja w.heap.size):=by
 obtain⟨r,p,c,rfl,X,Q,R⟩:=E
 rcases p with _|s
 ·have g:=Q N
  subst g;obtain rfl:m=0:=Y;obtain rfl:b=[]:=wi Y;exact⟨v,w,run_append_owned_none (P:=P) (w:=w) base t f e i size l q v n xs k,by simpa using k,qQ.refl _ _,.inl rfl⟩
 have S:∀(j:I) a,b[j]?=ja a->w.cell? (s.add j)=ja a:=?_
 ·obtain⟨d,w',g,o,u,_,U⟩:=run_append_own_at (P:=P) w base t f e i z size h l q x y B C D v n xs k s m c b r S F H K M
  exact⟨d,w',g,o,u,U⟩
 intro j a u;have U:=(m0.1 u).1;have V:0<m:=by
  rcases pz m with g|g
  ·rw[r,g]at U;omega
  exact g
 obtain⟨g,o,e,W⟩:=R V;obtain rfl:=wq.inj e;rw[B6];exact W j a u
theorem mN{w:jc}{o:jz}{a:Act}{K:Act->jc->Prop}{g:jV->Act->jc->Prop}(s x:lm)(t:jr)
 (j:o.op=.call {callee:=.builtin .append,args:=#[s,x],argTypes:=#[t,t]})
 (base:I) (e:jr) (i:TypeInfo) (z:jh) (size f:I) (k:P.underlying t=ja (.slice e)) (l:P.info? e=ja i) (p:i.zero=ja z)
 (q:i.size=size) (r:i.bytes=f) (u:z.cells.size=size) (y:0<size)
 (v:jh) (n:I) (xs:je jh) (B:a.eval s=v) (C:w.ownsRow base e size v n xs) (c:jh) (m:I) (d:je jh) (D:a.eval x=c) (E:cO w c size m d) (F:∀c∈d,c.oneCell'=jg)
 (H:n+m<=j0) (M:(n+m)*f<=140737488355328) (Q:base<=w.heap.size)
 (h:∀b w',w'.ownsRow base e size b (n+m) (xs++d)->w.grownBy w' v.ownBlock->(b.ownBlock=v.ownBlock\/b.ownBlock=ja w.heap.size)->K (a.put o.dst b) w'):o.wp P a w K g:=by
 obtain⟨b,w',R,S,U,V⟩:=K8 (P:=P) w base t o.type e i z size f k l p q r u y v n xs C c m d E F H M Q;unfold Oper.wp jY;simp only[j,resolve,invoke,builtin,Sem.run_bind,Sem.run_pure,Result.andThen_ok,wt,qS,wx,B,D,R];exact h b w' S U V
end
end
section
section
variable {P:jI} {ops:jt jz} {Q:jV->Act->jc->Prop} {md:Region.Mode} {S:jc->Prop}
theorem Q2{o:jz}{a:Act}{w w':jc}{K:Act->jc->Prop}{v:jh}(h:(jY a.eval o).run P w=.ok (.value v) w')(b:K (a.put o.dst v) w'):o.wp P a w K Q:=by
 unfold Oper.wp;rw[h];exact b
theorem gL{o:jz}{a:Act}{w:jc}{K:Act->jc->Prop}(t:jr)(c:o.op=.alloc t)(b:jt jh)
 (d:∀w,(Instr.alloc t jg (jN #[])).run P w=.ok (jG (ja ⟨w,0,jd⟩)) (w.alloc (jj b t))) (h:K (a.put o.dst (jG (ja ⟨w,0,jd⟩))) (w.alloc (jj b t))):o.wp P a w K Q:=by
 refine Q2 (v:=jG (ja ⟨w,0,jd⟩)) (w':=w.alloc (jj b t)) ?_ h;unfold jY;simp only[c,Sem.run_bind,d,Result.andThen_ok,Sem.run_pure]
end
end
theorem FY(a b:I)(c:a<4294967296)(d:b<4294967296):bits .or .u32 (a:T) (b:T)=((a|||b:I):T):=
 (bits_nat .u32 32 G (λn e f=>IntWalk.u32_in n Y) a b Y Y).2
theorem MA(a b:I)(c:a<4294967296)(d:b<4294967296):bits .and .u32 (a:T) (b:T)=((a&&&b:I):T):=
 (bits_nat .u32 32 G (λn e f=>IntWalk.u32_in n Y) a b Y Y).1
theorem Ij(a b:I)(c:a<4294967296)(d:b<4294967296):bits .xor .u32 (a:T) (b:T)=((a^^^b:I):T):=by
 have e:a%2^32=a:=jX c;have f:b%2^32=b:=jX d;have g:a^^^b<2^32:=Nat.xor_lt_two_pow c d;show jo.wrap ((xC 32 (a:T)^^^xC 32 (b:T)).toNat:T)=_;simp only[BitVec.ofInt_natCast,xD,qG,e,f];exact IntWalk.u32_in _ Y
theorem bor(x y:jm 32):bits .or .u32 (x.toNat:T) (y.toNat:T)=((x|||y).toNat:T):=by rw[FY _ _ x.isLt y.isLt,xE]
theorem Cz(x y:jm 32):bits .and .u32 (x.toNat:T) (y.toNat:T)=((x&&&y).toNat:T):=by rw[MA _ _ x.isLt y.isLt,BitVec.toNat_and]
theorem gR(x y:jm 32):bits .xor .u32 (x.toNat:T) (y.toNat:T)=((x^^^y).toNat:T):=by rw[Ij _ _ x.isLt y.isLt,xD]
theorem kq(x y:jm 32):((x.toNat:T)+(y.toNat:T))%4294967296=((x+y).toNat:T):=by rw[xF];simp
theorem yA(x:jm 32)(n d:I)(a:d=2^n):(x.toNat:T)/(d:T)=((x>>>n).toNat:T):=by rw[w9,xa,a];simp
theorem yC(x:jm 8)(n d:I)(a:n<=24)(b:d=2^n):(x.toNat:T)*(d:T)=((x.setWidth 32<<<n).toNat:T):=by
 have g:=x.isLt;have c:2^n<=2^24:=tb G a;have e:x.toNat*2^n<2^32:=by
  have:x.toNat*2^n<=255*2^24:=Nat.mul_le_mul Y c;omega
 have f:x.toNat%2^32=x.toNat:=jX Y;rw[xd,qH,qT,f,jX e,b];simp
theorem Cw(x:jm 8):(x.toNat:T)=((x.setWidth 32).toNat:T):=by
 have a:=x.isLt;rw[qH,jX Y]
theorem gI(x:jm 32)(k m d:I)(a:k<32)(b:m=2^k)(c:d=2^(32-k)):
 bits .or .u32 ((x.toNat:T)*(m:T)%4294967296) ((x.toNat:T)/(d:T))=((x.rotateLeft k).toNat:T):=by
 have e:((x.toNat:T)*(m:T)%4294967296)=((x.toNat*m%4294967296:I):T):=by simp
 have f:((x.toNat:T)/(d:T))=((x.toNat/d:I):T):=by simp
 have g:x.toNat/d<4294967296:=xG (xB _ _) (bL x.isLt);rw[e,f,FY _ _ (qC _ G) g,xH,jX a,xE,xd,w9,qT,xa,<-b,<-c]
theorem kC(x:jm 32)(k:I)(h:0<k)(hk:k<32):x.rotateLeft (32-k)=x.rotateRight k:=by
 rw[xH,BitVec.rotateRight_def,jX hk,jX (by omega:32-k<32),show 32-(32-k)=k by omega,BitVec.or_comm]
theorem fp{j b:T}(h:j=b):Ending.returned (A jp j)=jq (A jp b):=by rw[h]
theorem QW(x:jm 32)(w:jc):
 js ji 241 #[A jp x.toNat,A jf 16] w λe w'=>e=jq (A jp (x.rotateLeft 16).toNat)/\w=w':=by
 have a:bits .and .u64 16 31=16:=by decide
 go_enter j9,kl
 go_wp2
 go_ret;exact⟨fp (gI x 16 65536 65536 G G G),N⟩
theorem Qj(x:jm 32)(w:jc):
 js ji 241 #[A jp x.toNat,A jf 12] w λe w'=>e=jq (A jp (x.rotateLeft 12).toNat)/\w=w':=by
 have a:bits .and .u64 12 31=12:=by decide
 go_enter j9,kl
 go_wp2
 go_ret;exact⟨fp (gI x 12 4096 1048576 G G G),N⟩
theorem GP(x:jm 32)(w:jc):
 js ji 241 #[A jp x.toNat,A jf 8] w λe w'=>e=jq (A jp (x.rotateLeft 8).toNat)/\w=w':=by
 have a:bits .and .u64 8 31=8:=by decide
 go_enter j9,kl
 go_wp2
 go_ret;exact⟨fp (gI x 8 256 16777216 G G G),N⟩
theorem G0(x:jm 32)(w:jc):
 js ji 241 #[A jp x.toNat,A jf 7] w λe w'=>e=jq (A jp (x.rotateLeft 7).toNat)/\w=w':=by
 have a:bits .and .u64 7 31=7:=by decide
 go_enter j9,kl
 go_wp2
 go_ret;exact⟨fp (gI x 7 128 33554432 G G G),N⟩
theorem Ou(x:jm 32)(w:jc):
 js ji 241 #[A jp x.toNat,A jf (-7)] w λe w'=>e=jq (A jp (x.rotateRight 7).toNat)/\w=w':=by
 rw[<-kC x 7 G G];have a:bits .and .u64 (jJ.wrap (-7)) 31=25:=by decide
 go_enter j9,kl
 go_wp2
 go_ret;exact⟨fp (gI x 25 33554432 128 G G G),N⟩
theorem MD(x:jm 32)(w:jc):
 js ji 241 #[A jp x.toNat,A jf (-18)] w λe w'=>e=jq (A jp (x.rotateRight 18).toNat)/\w=w':=by
 rw[<-kC x 18 G G];have a:bits .and .u64 (jJ.wrap (-18)) 31=14:=by decide
 go_enter j9,kl
 go_wp2
 go_ret;exact⟨fp (gI x 14 16384 262144 G G G),N⟩
theorem NJ(x:jm 32)(w:jc):
 js ji 241 #[A jp x.toNat,A jf (-17)] w λe w'=>e=jq (A jp (x.rotateRight 17).toNat)/\w=w':=by
 rw[<-kC x 17 G G];have a:bits .and .u64 (jJ.wrap (-17)) 31=15:=by decide
 go_enter j9,kl
 go_wp2
 go_ret;exact⟨fp (gI x 15 32768 131072 G G G),N⟩
theorem On(x:jm 32)(w:jc):
 js ji 241 #[A jp x.toNat,A jf (-19)] w λe w'=>e=jq (A jp (x.rotateRight 19).toNat)/\w=w':=by
 rw[<-kC x 19 G G];have a:bits .and .u64 (jJ.wrap (-19)) 31=13:=by decide
 go_enter j9,kl
 go_wp2
 go_ret;exact⟨fp (gI x 13 8192 524288 G G G),N⟩
theorem Oy(x:jm 32)(w:jc):
 js ji 241 #[A jp x.toNat,A jf (-6)] w λe w'=>e=jq (A jp (x.rotateRight 6).toNat)/\w=w':=by
 rw[<-kC x 6 G G];have a:bits .and .u64 (jJ.wrap (-6)) 31=26:=by decide
 go_enter j9,kl
 go_wp2
 go_ret;exact⟨fp (gI x 26 67108864 64 G G G),N⟩
theorem N3(x:jm 32)(w:jc):
 js ji 241 #[A jp x.toNat,A jf (-11)] w λe w'=>e=jq (A jp (x.rotateRight 11).toNat)/\w=w':=by
 rw[<-kC x 11 G G];have a:bits .and .u64 (jJ.wrap (-11)) 31=21:=by decide
 go_enter j9,kl
 go_wp2
 go_ret;exact⟨fp (gI x 21 2097152 2048 G G G),N⟩
theorem QZ(x:jm 32)(w:jc):
 js ji 241 #[A jp x.toNat,A jf (-25)] w λe w'=>e=jq (A jp (x.rotateRight 25).toNat)/\w=w':=by
 rw[<-kC x 25 G G];have a:bits .and .u64 (jJ.wrap (-25)) 31=7:=by decide
 go_enter j9,kl
 go_wp2
 go_ret;exact⟨fp (gI x 7 128 33554432 G G G),N⟩
theorem GT(x:jm 32)(w:jc):
 js ji 241 #[A jp x.toNat,A jf (-2)] w λe w'=>e=jq (A jp (x.rotateRight 2).toNat)/\w=w':=by
 rw[<-kC x 2 G G];have a:bits .and .u64 (jJ.wrap (-2)) 31=30:=by decide
 go_enter j9,kl
 go_wp2
 go_ret;exact⟨fp (gI x 30 1073741824 4 G G G),N⟩
theorem ID(x:jm 32)(w:jc):
 js ji 241 #[A jp x.toNat,A jf (-13)] w λe w'=>e=jq (A jp (x.rotateRight 13).toNat)/\w=w':=by
 rw[<-kC x 13 G G];have a:bits .and .u64 (jJ.wrap (-13)) 31=19:=by decide
 go_enter j9,kl
 go_wp2
 go_ret;exact⟨fp (gI x 19 524288 8192 G G G),N⟩
theorem KQ(x:jm 32)(w:jc):
 js ji 241 #[A jp x.toNat,A jf (-22)] w λe w'=>e=jq (A jp (x.rotateRight 22).toNat)/\w=w':=by
 rw[<-kC x 22 G G];have a:bits .and .u64 (jJ.wrap (-22)) 31=10:=by decide
 go_enter j9,kl
 go_wp2
 go_ret;exact⟨fp (gI x 10 1024 4194304 G G G),N⟩
def le4(a b c d:jm 8):jm 32:=a.setWidth 32|||b.setWidth 32<<<8|||c.setWidth 32<<<16|||d.setWidth 32<<<24
theorem MR(d a b c:jm 8):bits .or .u32 (bits .or .u32 (bits .or .u32 (d.toNat:T) ((a.toNat:T)*256)) ((b.toNat:T)*65536)) ((c.toNat:T)*16777216)=((le4 d a b c).toNat:T):=by
 rw[Cw d,show((a.toNat:T)*256)=_ from yC a 8 256 G G,show((b.toNat:T)*65536)=_ from yC b 16 65536 G G,
  show((c.toNat:T)*16777216)=_ from yC c 24 16777216 G G,bor,bor,bor];rfl
theorem Cf(g o c n:I)(h:4<=n)(i:n<4611686018427387904)(a b d f:jm 8)(w:jc)(j:w.cell? ⟨g,o,jd⟩=ja (A jF a.toNat))(k:w.cell? ⟨g,o+1,jd⟩=ja (A jF b.toNat))
 (l:w.cell? ⟨g,o+2,jd⟩=ja (A jF d.toNat)) (m:w.cell? ⟨g,o+3,jd⟩=ja (A jF f.toNat)):
 js ji 266 #[ju (ja ⟨g,o,jd⟩) n c] w λe w'=>e=jq (A jp (le4 a b d f).toNat)/\∃q,w'=w.drewN q:=by
 go_enter func266,ntmps266
 go_wp2
 go_quiet (fail)
 go_wp2
 go_ret;exact⟨fp (MR a b d f),_,N⟩
def aQ(W:jc)(g:I)(t:jr)(v:je (jm 32)):Prop:=
 W.heap[g]?=ja (jj (v.map λx=>jb .u32 (x.toNat:T)).toArray t (0,0))
theorem aQ.cell{v:je (jm 32)}(h:aQ W g t v){i:I}(a:i<v.length):
 W.cell? ⟨g,i,jd⟩=ja (A jp (v.getD i 0).toNat):=by
 simp[j8,show W.heap[g]?=_ from h,a,jW]
theorem aQ.frozen(h:aQ w g t b)(i:I):w.frozen? ⟨g,i,jd⟩=jw:=by
 simp[xI,show w.heap[g]?=_ from h]
theorem aQ.lt(h:aQ w g t b):g<w.heap.size:=(jO.1 h).1
theorem aQ.set{v:je (jm 32)}(h:aQ W g t v)(i:I)(x:jm 32):
 aQ (W.setCell ⟨g,i,jd⟩ (A jp x.toNat)) g t (v.set i x):=by
 have a:=h.lt;have b:W.heap[g]=_:=(jO.1 h).2;show(W.heap.modify g _)[g]?=_;rw[xf];simp[a,b,List.map_set]
structure aZ(g:I)(w w':jc):Prop where
 os:w'.os=w.os
 tape:w'.tape=w.tape
 output:w'.output=w.output
 size:w'.heap.size=w.heap.size
 block:∀k,k≠g->w'.heap[k]?=w.heap[k]?
theorem aZ.refl(g:I)(w:jc):aZ g w w:=⟨N,N,N,N,λ_ _=>rfl⟩
theorem aZ.trans{b c:jc}(h:aZ g a b)(k:aZ g b c):aZ g a c:=
 ⟨k.os.trans h.os,k.tape.trans h.tape,k.output.trans h.output,k.size.trans h.size,λi d=>(k.block i d).trans (h.block i d)⟩
theorem aZ.setCell(g i:I)(w:jc)(x:jh):aZ g w (w.setCell ⟨g,i,jd⟩ x):=
 ⟨rfl,rfl,rfl,by simp[xg],λk hk=>ow _ _ _ _ hk⟩
theorem aZ.below(h:aZ g w w')(a:B<=g):jn B w w':=
 ⟨h.os,h.tape,h.output,qA h.size.symm,λk hk=>h.block k Y⟩
def stA(v:je (jm 32))(a b:I):je (jm 32):=v.set a (v.getD a 0+v.getD b 0)
def stD(v:je (jm 32))(d a k:I):je (jm 32):=v.set d ((v.getD d 0^^^v.getD a 0).rotateLeft k)
def qr(v:je (jm 32))(a b c d:I):je (jm 32):=
 stD (stA (stD (stA (stD (stA (stD (stA v a b) d a 16) c d) b c 12) a b) d a 8) c d) b c 7
theorem rS(v a b):(stA v a b).length=v.length:=by simp[stA]
theorem tN(v a b k):(stD v a b k).length=v.length:=by simp[stD]
theorem AV(v a b c d):(qr v a b c d).length=v.length:=by simp[qr,rS,tN]
theorem LY(x y z:jm 32)(a:jl ((x^^^y).rotateLeft 16=z))(w:jc):
 js ji 241 #[A jp (bits .xor .u32 (x.toNat:T) (y.toNat:T)),A jf 16] w λe w'=>e=jq (A jp z.toNat)/\w=w':=by
 rw[gR,<-a];exact QW _ _
theorem Nr(x y z:jm 32)(a:jl ((x^^^y).rotateLeft 12=z))(w:jc):
 js ji 241 #[A jp (bits .xor .u32 (x.toNat:T) (y.toNat:T)),A jf 12] w λe w'=>e=jq (A jp z.toNat)/\w=w':=by
 rw[gR,<-a];exact Qj _ _
theorem Lx(x y z:jm 32)(a:jl ((x^^^y).rotateLeft 8=z))(w:jc):
 js ji 241 #[A jp (bits .xor .u32 (x.toNat:T) (y.toNat:T)),A jf 8] w λe w'=>e=jq (A jp z.toNat)/\w=w':=by
 rw[gR,<-a];exact GP _ _
theorem Rq(x y z:jm 32)(a:jl ((x^^^y).rotateLeft 7=z))(w:jc):
 js ji 241 #[A jp (bits .xor .u32 (x.toNat:T) (y.toNat:T)),A jf 7] w λe w'=>e=jq (A jp z.toNat)/\w=w':=by
 rw[gR,<-a];exact G0 _ _
theorem DW(g:I)(t:jr)(v:je (jm 32))(Q:v.length=16)(a b c d:I)(ha:(a:T)<16)(hb:(b:T)<16)(hc:(c:T)<16)(hd:(d:T)<16)(w:jc)
 (h:aQ w g t v):
 js ji 256 #[jG (ja ⟨g,0,jd⟩),A jf a,A jf b,A jf c,A jf d] w λe w'=>
  e=jq (jN #[])/\aZ g w w'/\aQ w' g t (qr v a b c d):=by
 have f:aZ g w w:=aZ.refl g w;have n:qr v a b c d=stD (stA (stD (stA (stD (stA (stD (stA v a b) d a 16) c d) b c 12) a b) d a 8) c d) b c 7:=N;generalize qr v a b c d=R at n⊢;replace n:=O n
 go_enter func256,ntmps256
 replace f:=O f;replace h:=O h
 go_upto_region 0 with fail
 go_cut []from 10 to 22 (λl=>aQ l g t (stA v a b)/\aZ g w l)
 case first=>
  have m:=h.cell (i:=a) Y;have B:=h.cell (i:=b) Y;have q:=h.frozen a;generalize j:v.getD a 0=x at m;generalize k:v.getD b 0=y at B;replace j:=O j;replace k:=O k
  go_region
  rw[kq x y]
  go_wp2_with fail
  go_meet
  refine⟨?_,?_⟩
  ·rw[stA,j,k];exact h.set _ _
  exact f.trans ((aZ.setCell g a w (A jp (x+y).toNat)).trans ⟨N,N,N,N,λ_ _=>rfl⟩)
 obtain⟨o,f⟩:=hcut;clear h;have E:(stA v a b).length=16:=by rw[rS];exact Q
 generalize stA v a b=r at o E n;generalize wc=S at*;replace f:=O f;replace o:=O o
 go_upto_region 1 with fail
 go_cut []from 23 to 38 (λl=>aQ l g t (stD r d a 16)/\aZ g w l)
 case first=>
  have m:=o.cell (i:=d) Y;have B:=o.cell (i:=a) Y;have q:=o.frozen d;generalize j:r.getD d 0=x at m;generalize k:r.getD a 0=y at B;replace j:=O j;replace k:=O k;obtain⟨z,h⟩:∃z,jl ((x^^^y).rotateLeft 16=z):=⟨_,O N⟩
  go_region_with (go_at_call 241;refine(LY x y z h _).mono ?_;rintro e w' ⟨rfl,rfl⟩)
  all_goals
   go_wp2_with fail
   go_meet
   refine⟨?_,?_⟩
   ·rw[stD,j,k,h];exact o.set _ _
   exact f.trans ((aZ.setCell g d S (A jp z.toNat)).trans ⟨N,N,N,N,λ_ _=>rfl⟩)
 obtain⟨p,f⟩:=hcut;clear o;have F:(stD r d a 16).length=16:=by rw[tN];exact E
 generalize stD r d a 16=s at p F n;generalize wc=U at*;replace f:=O f;replace p:=O p
 go_upto_region 2 with fail
 go_cut []from 39 to 51 (λl=>aQ l g t (stA s c d)/\aZ g w l)
 case first=>
  have m:=p.cell (i:=c) Y;have B:=p.cell (i:=d) Y;have q:=p.frozen c;generalize j:s.getD c 0=x at m;generalize k:s.getD d 0=y at B;replace j:=O j;replace k:=O k
  go_region
  rw[kq x y]
  go_wp2_with fail
  go_meet
  refine⟨?_,?_⟩
  ·rw[stA,j,k];exact p.set _ _
  exact f.trans ((aZ.setCell g c U (A jp (x+y).toNat)).trans ⟨N,N,N,N,λ_ _=>rfl⟩)
 obtain⟨o,f⟩:=hcut;clear p;have H:(stA s c d).length=16:=by rw[rS];exact F
 generalize stA s c d=u at o H n;generalize wc=V at*;replace f:=O f;replace o:=O o
 go_upto_region 3 with fail
 go_cut []from 52 to 67 (λl=>aQ l g t (stD u b c 12)/\aZ g w l)
 case first=>
  have m:=o.cell (i:=b) Y;have B:=o.cell (i:=c) Y;have q:=o.frozen b;generalize j:u.getD b 0=x at m;generalize k:u.getD c 0=y at B;replace j:=O j;replace k:=O k;obtain⟨z,h⟩:∃z,jl ((x^^^y).rotateLeft 12=z):=⟨_,O N⟩
  go_region_with (go_at_call 241;refine(Nr x y z h _).mono ?_;rintro e w' ⟨rfl,rfl⟩)
  all_goals
   go_wp2_with fail
   go_meet
   refine⟨?_,?_⟩
   ·rw[stD,j,k,h];exact o.set _ _
   exact f.trans ((aZ.setCell g b V (A jp z.toNat)).trans ⟨N,N,N,N,λ_ _=>rfl⟩)
 obtain⟨p,f⟩:=hcut;clear o;have K:(stD u b c 12).length=16:=by rw[tN];exact H
 generalize stD u b c 12=C at p K n;generalize wc=W at*;replace f:=O f;replace p:=O p
 go_upto_region 4 with fail
 go_cut []from 68 to 80 (λl=>aQ l g t (stA C a b)/\aZ g w l)
 case first=>
  have m:=p.cell (i:=a) Y;have B:=p.cell (i:=b) Y;have q:=p.frozen a;generalize j:C.getD a 0=x at m;generalize k:C.getD b 0=y at B;replace j:=O j;replace k:=O k
  go_region
  rw[kq x y]
  go_wp2_with fail
  go_meet
  refine⟨?_,?_⟩
  ·rw[stA,j,k];exact p.set _ _
  exact f.trans ((aZ.setCell g a W (A jp (x+y).toNat)).trans ⟨N,N,N,N,λ_ _=>rfl⟩)
 obtain⟨o,f⟩:=hcut;clear p;have M:(stA C a b).length=16:=by rw[rS];exact K
 generalize stA C a b=D at o M n;generalize wc=X at*;replace f:=O f;replace o:=O o
 go_upto_region 5 with fail
 go_cut []from 81 to 96 (λl=>aQ l g t (stD D d a 8)/\aZ g w l)
 case first=>
  have m:=o.cell (i:=d) Y;have B:=o.cell (i:=a) Y;have q:=o.frozen d;generalize j:D.getD d 0=x at m;generalize k:D.getD a 0=y at B;replace j:=O j;replace k:=O k;obtain⟨z,h⟩:∃z,jl ((x^^^y).rotateLeft 8=z):=⟨_,O N⟩
  go_region_with (go_at_call 241;refine(Lx x y z h _).mono ?_;rintro e w' ⟨rfl,rfl⟩)
  all_goals
   go_wp2_with fail
   go_meet
   refine⟨?_,?_⟩
   ·rw[stD,j,k,h];exact o.set _ _
   exact f.trans ((aZ.setCell g d X (A jp z.toNat)).trans ⟨N,N,N,N,λ_ _=>rfl⟩)
 obtain⟨p,f⟩:=hcut;clear o;have P:(stD D d a 8).length=16:=by rw[tN];exact M
 generalize stD D d a 8=o at p P n;generalize wc=W6 at*;replace f:=O f;replace p:=O p
 go_upto_region 6 with fail
 go_cut []from 97 to 109 (λl=>aQ l g t (stA o c d)/\aZ g w l)
 case first=>
  have m:=p.cell (i:=c) Y;have B:=p.cell (i:=d) Y;have q:=p.frozen c;generalize j:o.getD c 0=x at m;generalize k:o.getD d 0=y at B;replace j:=O j;replace k:=O k
  go_region
  rw[kq x y]
  go_wp2_with fail
  go_meet
  refine⟨?_,?_⟩
  ·rw[stA,j,k];exact p.set _ _
  exact f.trans ((aZ.setCell g c W6 (A jp (x+y).toNat)).trans ⟨N,N,N,N,λ_ _=>rfl⟩)
 obtain⟨l,f⟩:=hcut;clear p;have l7:(stA o c d).length=16:=by rw[rS];exact P
 generalize stA o c d=p at l l7 n;generalize wc=W7 at*;have f:=O f;replace l:=O l
 go_upto_region 7 with fail
 have m:=l.cell (i:=b) Y;have B:=l.cell (i:=c) Y;have q:=l.frozen b;generalize j:p.getD b 0=x at m;generalize k:p.getD c 0=y at B;replace j:=O j;replace k:=O k;obtain⟨z,h⟩:∃z,jl ((x^^^y).rotateLeft 7=z):=⟨_,O N⟩
 go_region_with (go_at_call 241;refine(Rq x y z h _).mono ?_;rintro e w' ⟨rfl,rfl⟩)
 all_goals
  go_wp2_with fail
  go_end0
  refine⟨N,?_,?_⟩
  ·exact f.trans ((aZ.setCell g b W7 (A jp z.toNat)).trans ⟨N,N,N,N,λ_ _=>rfl⟩)
  rw[n,stD,j,k,h];exact l.set _ _
abbrev v8(x:jm 8):jh:=jb .u8 (x.toNat:T)
abbrev bR(x:jm 32):jh:=jb .u32 (x.toNat:T)
def b8(W:jc)(g:I)(t:jr)(v:af):Prop:=
 W.heap[g]?=ja (jj (v.map v8).toArray t (0,0))
theorem b8.cell{v:af}(h:b8 W g t v){i:I}(a:i<v.length):
 W.cell? ⟨g,i,jd⟩=ja (A jF (v.getD i 0).toNat):=by
 simp[j8,show W.heap[g]?=_ from h,a,jW,v8]
theorem b8.below{v:af}(h:b8 W g t v)(b:jn B W a)(c:g<B):b8 a g t v:=(b.block g c).trans h
theorem aQ.below{v:je (jm 32)}(h:aQ W g t v)(b:jn B W a)(c:g<B):aQ a g t v:=(b.block g c).trans h
def iI:je (jm 32):=[0x61707865,0x3320646e,0x79622d32,0x6b206574]
def o8(b:af)(i:I):jm 32:=le4 (b.getD i 0) (b.getD (i+1) 0) (b.getD (i+2) 0) (b.getD (i+3) 0)
def lZ(kb:af):I->je (jm 32)
 |0=>iI++nn 12 0
 |i+1=>(lZ kb i).set (4+i) (o8 kb (4*i))
def ou(kb a:af)(c:jm 32):I->je (jm 32)
 |0=>(lZ kb 8).set 12 c
 |i+1=>(ou kb a c i).set (13+i) (o8 a (4*i))
theorem zG(kb i):(lZ kb i).length=16:=by induction i with
 |zero=>rfl
 |succ i a=>simp[lZ,a]
theorem F0(kb nb c i):(ou kb nb c i).length=16:=by induction i with
 |zero=>simp[ou,zG]
 |succ i a=>simp[ou,a]
def eV(kb a:af)(c:jm 32):je (jm 32):=ou kb a c 3
theorem zz(kb nb c):(eV kb nb c).length=16:=F0 _ _ _ _
theorem dR{fr:I×I}{f:jt jh}(h:w.heap[g]?=ja (jj f t fr)):w.setRow g f=w:=by
 have a:=(jO.1 h);obtain⟨b,he⟩:=a;unfold World.setRow
 congr 1
 apply Array.ext_getElem?
 intro i;rw[xf]
 split
 ·rename_i e;subst e;simp[b,he]
 rfl
def pV(w:jc):Prop:=Lib.TabIs ji w "chartroom/cipher.constants" .u32 [0x61707865,0x3320646e,0x79622d32,0x6b206574]
theorem pT:ji.globalNamed "chartroom/cipher.constants" =ja 6:=by kernel_rfl
theorem kM{d:jh}(h:w.cell? ⟨g,B,jd⟩=ja d):g<w.heap.size:=by
 rcases qu g w.heap.size with a|a
 ·exact a
 simp[j8,rn a]at h
theorem Lo(b:w.cell? ⟨6,0,jd⟩=ja (A jp 0x61707865))(c:w.cell? ⟨6,1,jd⟩=ja (A jp 0x3320646e))(d:w.cell? ⟨6,2,jd⟩=ja (A jp 0x79622d32))(e:w.cell? ⟨6,3,jd⟩=ja (A jp 0x6b206574)):
 ∀(j:I) (v:jh),(iI.map bR)[j]?=ja v->w.cell? ((⟨6,0,jd⟩:jR).add j)=ja v:=by
 intro j v a
 match j,a with
 |0,a=>simp[iI,bR]at a;subst a;exact b
 |1,a=>simp[iI,bR]at a;subst a;exact c
 |2,a=>simp[iI,bR]at a;subst a;exact d
 |3,a=>simp[iI,bR]at a;subst a;exact e
 |j+4,a=>simp[iI]at a
theorem fG{p:jR}{d:jh}(h:w.cell? p=ja d)(w':a.heap[p.block]?=w.heap[p.block]?):a.cell? p=ja d:=by
 unfold j8 at*;rw[w'];exact h
theorem LN(w:jc)(a B C:Obj):((((w.alloc a).alloc B).alloc C).drew).heap[w.heap.size+1+1]?=ja C:=by
 show(((w.alloc a).alloc B).alloc C).heap[w.heap.size+1+1]?=ja C;have:=jL ((w.alloc a).alloc B) C
 simpa using this
theorem F8(w:jc)(a B C:Obj)(k:I)(hk:k<w.heap.size):((((w.alloc a).alloc B).alloc C).drew).heap[k]?=w.heap[k]?:=by
 show(((w.alloc a).alloc B).alloc C).heap[k]?=_;rw[jH _ _ _ (by simp;omega),jH _ _ _ (by simp;omega),jH _ _ _ hk]
theorem NV:∀v∈iI.map bR,v.oneCell'=jg:=by
 intro v a;obtain⟨x,_,rfl⟩:=qa.1 a
 rfl
theorem BO(t e:jr)(n:I)(a:P.underlying t=ja (.array n e))(c:∀w,(sizeOf e).run P w=.ok 1 w)(g o l:I)(d:l<n)(W:jc):
 (Instr.sliceAt t (jG (ja ⟨g,o,jd⟩)) (ja (A jf (l:T))) jd jd).run P W=.ok (ju (ja ⟨g,o+l,jd⟩) (n-l) (n-l)) W:=by
 have he:P.elem t=e:=by simp[Program.elem,a]
 have b:P.arrayLen t=n:=by simp[Program.arrayLen,a]
 rw[run_sliceAt_array_l W t _ (by rw[he,b];exact a) .i64 _ Y (by rw[b];omega)];rw[he,b];simp[c,Result.andThen,slicedAt,Addr.add];rw[jS Y]
 split<;>simp[*]
theorem gU:∀w,(sizeOf 5).run ji w=.ok 1 w:=λw=>by go_simp
theorem Pk(kb a:af)(c:jm 32)(w:jc)(hk:kb.length=32)(hn:a.length=12)(d:pV w):
 js ji 255 #[jT (kb.map v8).toArray,jT (a.map v8).toArray,A jp c.toNat] w λe w'=>
  e=jq (jT ((eV kb a c).map bR).toArray)/\jn w w w':=by
 have q:w.cell? ⟨6,0,jd⟩=ja (A jp 0x61707865):=d.cell pT 0 G;have u:6<w.heap.size:=kM q;have r:w.cell? ⟨6,1,jd⟩=ja (A jp 0x3320646e):=d.cell pT 1 G;have s:w.cell? ⟨6,2,jd⟩=ja (A jp 0x79622d32):=d.cell pT 2 G;have v:w.cell? ⟨6,3,jd⟩=ja (A jp 0x6b206574):=d.cell pT 3 G;generalize y:(kb.map v8).toArray=m;generalize z:(a.map v8).toArray=n;replace y:=O y;replace z:=O z;replace d:=O d
 go_enter func255,ntmps255
 go_wp2
 obtain⟨f,g⟩:∃f:je jh,f=nn 16 (A jp 0):=⟨_,N⟩;have i: #[jb jo 0,jb jo 0,jb jo 0,jb jo 0,
  jb jo 0,jb jo 0,jb jo 0,jb jo 0,
  jb jo 0,jb jo 0,jb jo 0,jb jo 0,
  jb jo 0,jb jo 0,jb jo 0,jb jo 0]=f.toArray:=by rw[g];rfl
 replace g:=O g;rw[i];replace i:=O i;have j:=LN w (jj m 64) (jj n 174) (jj f.toArray 325);have h:=F8 w (jj m 64) (jj n 174) (jj f.toArray 325) 6 u;have o:=Lo (fG q h) (fG r h) (fG s h) (fG v h);have p:0+(iI.map bR).length<=f.length:=by rw[g];decide
 replace j:=O j;replace o:=O o;clear h;replace p:=O p
 go_region_law (refine step_copy_splice N (.tmp 9) (.tmp 10) 315 315 N 161 underlying315 N (ja ⟨w.heap.size+1+1,0,jd⟩) (ja ⟨6,0,jd⟩) 16 16 4 4 (by simp[Act.eval,Act.put]) (by simp[Act.eval,Act.put]) (w.heap.size+1+1) 0 f 325 j (iI.map bR) N (λ_=>⟨N,_,N,o⟩) p NV (w.heap.size+1+1) _ (jK _ _) (jA _) ?_;intro l x h)
 have B:aQ l (w.heap.size+1+1) 325 (lZ kb 0):=by
  have e:splice f 0 (iI.map bR)=(lZ kb 0).map bR:=by rw[g];rfl
  show l.heap[_]?=_;rw[x,e]
 have t:b8 l w.heap.size 64 kb:=by
  show l.heap[_]?=_;rw[h.block _ Y,y];show(((w.alloc (jj m 64)).alloc (jj n 174)).alloc (jj f.toArray 325)).heap[w.heap.size]?=_;rw[jH _ _ _ (by simp;omega),jH _ _ _ ax,jL]
 have C:b8 l (w.heap.size+1) 174 a:=by
  show l.heap[_]?=_;rw[h.block _ Y,z];show(((w.alloc (jj m 64)).alloc (jj n 174)).alloc (jj f.toArray 325)).heap[w.heap.size+1]?=_;rw[jH _ _ _ ax];have:=jL (w.alloc (jj m 64)) (jj n 174)
  simpa using this
 have D:jn w w l:=by
  refine Below.trans (b:=(((w.alloc (jj m 64)).alloc (jj n 174)).alloc (jj f.toArray 325)).drew) ⟨N,N,N,?_,λk hk=>F8 w _ _ _ k hk⟩ (h.mono Y);show w.heap.size<=(((w.alloc (jj m 64)).alloc (jj n 174)).alloc (jj f.toArray 325)).heap.size;simp;omega
 have Q:=O B;have R:=O t;have S:=O C;have U:=O D;clear B t C D x h p o j g i q r s v d
 go_wp2_with fail
 go_loopw [12] (λi wr=>∃j:I,i=A jf j/\j<=8/\jl (aQ wr (w.heap.size+1+1) 325 (lZ kb j))/\jl (aZ (w.heap.size+1+1) l wr)) (λi _=>(8-jy i).toNat)
 case atStart=>exact⟨0,N,by omega,Q,aZ.refl _ _⟩
 obtain⟨j,rfl,V,g,k⟩:=hrel
 by_cases u:j<8
 ·have h:b8 wr (w.heap.size) 64 kb:=(k.block _ Y).trans R
  have o:=h.cell (i:=4*j) Y;have p:=h.cell (i:=4*j+1) Y;have r:=h.cell (i:=4*j+2) Y;have s:=h.cell (i:=4*j+3) Y;have B:=g.frozen (4+j);have C:=g.cell (i:=4+j) (by rw[zG];omega);have v:=O o;have D:=O p;have E:=O r;have F:=O s;clear o p r s h;have X:∀W,(Instr.sliceAt 64 (jG (ja ⟨w,0,jd⟩)) (ja (A jf (4*(j:T)))) jd jd).run ji W=.ok (ju (ja ⟨w,4*j,jd⟩) (32-4*j) (32-4*j)) W:=λW=>by
   have:=BO (P:=ji) 64 5 32 underlying64 gU (w.heap.size) 0 (4*j) Y W
   simpa using this
  go_wp2_with fail
  refine(Cf _ _ _ _ ?_ ?_ _ _ _ _ _ v.out D E F).mono ?_
  ·omega
  ·omega
  rintro e w' ⟨rfl,q,rfl⟩;have d:le4 (kb.getD (4*j) 0) (kb.getD (4*j+1) 0) (kb.getD (4*j+2) 0) (kb.getD (4*j+3) 0)=o8 kb (4*j):=N;rw[d];clear d;obtain⟨x,d⟩:=J (o8 kb (4*j));rw[<-d];have H:=O d;clear d
  go_wp2
  go_roundw
  case rel=>
   refine⟨j+1,by go_num,by omega,?_,?_⟩
   ·show aQ _ _ _ (qU _ _ _)
    rw[<-H];exact aQ.set (W:=wr.drewN q) g _ _
   exact k.trans (aZ.trans (b:=wr.drewN q) ⟨N,N,N,N,λ_ _=>rfl⟩ (aZ.setCell _ _ _ _))
  case measure=>simp[jy];omega
 have M:j=8:=Y;have K:jl (aQ wr (w.heap.size+1+1) 325 (lZ kb 8)):=M▸g;clear g M;have B:=K.frozen 12;have C:=K.cell (i:=12) (by rw[zG];omega)
 go_wp2_with fail
 clear B C
 go_loopw [25] (λi wr=>∃j:I,i=A jf j/\j<=3/\jl (aQ wr (w.heap.size+1+1) 325 (ou kb a c j))/\jl (aZ (w.heap.size+1+1) l wr)) (λi _=>(3-jy i).toNat)
 case atStart=>
  refine⟨0,N,by omega,?_,?_⟩
  ·exact aQ.set (W:=wr) K _ _
  exact k.trans (aZ.setCell _ _ _ _)
 obtain⟨j,rfl,V,g,k⟩:=hrel
 by_cases u:j<3
 ·have h:b8 wr (w.heap.size+1) 174 a:=(k.block _ Y).trans S
  have o:=h.cell (i:=4*j) Y;have p:=h.cell (i:=4*j+1) Y;have r:=h.cell (i:=4*j+2) Y;have s:=h.cell (i:=4*j+3) Y;have B:=g.frozen (13+j);have C:=g.cell (i:=13+j) (by rw[F0];omega);have v:=O o;have D:=O p;have E:=O r;have F:=O s;clear o p r s h;have X:∀W,(Instr.sliceAt 174 (jG (ja ⟨w.heap.size+1,0,jd⟩)) (ja (A jf (4*(j:T)))) jd jd).run ji W=.ok (ju (ja ⟨w.heap.size+1,4*j,jd⟩) (12-4*j) (12-4*j)) W:=λW=>by
   have:=BO (P:=ji) 174 5 12 underlying174 gU (w.heap.size+1) 0 (4*j) Y W
   simpa using this
  go_wp2_with fail
  refine(Cf _ _ _ _ ?_ ?_ _ _ _ _ _ v.out D E F).mono ?_
  ·omega
  ·omega
  rintro e w' ⟨rfl,q,rfl⟩;have d:le4 (a.getD (4*j) 0) (a.getD (4*j+1) 0) (a.getD (4*j+2) 0) (a.getD (4*j+3) 0)=o8 a (4*j):=N;rw[d];clear d;obtain⟨x,d⟩:=J (o8 a (4*j));rw[<-d];have H:=O d;clear d
  go_wp2
  go_roundw
  case rel=>
   refine⟨j+1,by go_num,by omega,?_,?_⟩
   ·show aQ _ _ _ (qU _ _ _)
    rw[<-H];exact aQ.set (W:=wr.drewN q) g _ _
   exact k.trans (aZ.trans (b:=wr.drewN q) ⟨N,N,N,N,λ_ _=>rfl⟩ (aZ.setCell _ _ _ _))
  case measure=>simp[jy];omega
 have d:j=3:=Y;have r:jl (aQ wr (w.heap.size+1+1) 325 (ou kb a c 3)):=d▸g;clear g d;have h:wr.heap[w.heap.size+1+1]?=ja (jj ((eV kb a c).map bR).toArray 325 (0,0)):=r.out;have o:((eV kb a c).map bR).toArray.size=16:=by rw[jZ,kw,zz]
 have p:((eV kb a c).map bR).toArray.all (·.oneCell')=jg:=by
  rw[o4];intro v d;obtain⟨x,_,rfl⟩:=qa.1 (ah d)
  rfl
 have s:jl (jn w w wr):=U.trans (k.below Y);generalize g:((eV kb a c).map bR).toArray=d at h o p;have x:=O g;clear g;have g:=O h;have q:=O o;have D:=O p;clear h o p
 go_upto_region 13 with fail
 refine qb ?_;refine qc N 325 _ N (w.heap.size+1+1) N 325 d (0,0) _ g.out qI N (by rw[q];rfl) ?_;refine qd N λ_ t=>q5 325 _ _ N (w.heap.size+1+1) d N N 325 d g.out (by rw[q];rfl) N D (t _ _ ?_)
 rw[dR g]
 go_wp2_with fail
 refine nz (v:=jT d) ?_ N ?_
 ·exact q6 N _ _ _ 325 _ (0,0) _ N g qI N (by rw[q];rfl)
 exact⟨by rw[x],s⟩
def ni(v:je (jm 32)):I->je (jm 32)
 |0=>v
 |i+1=>qr (ni v i) i (4+i) (8+i) (12+i)
def sE(v:je (jm 32)):I->je (jm 32)
 |0=>v
 |i+1=>qr (sE v i) i (4+(i+1)%4) (8+(i+2)%4) (12+(i+3)%4)
def fM(v:je (jm 32)):I->je (jm 32)
 |0=>v
 |r+1=>sE (ni (fM v r) 4) 4
theorem uN(v i):(ni v i).length=v.length:=by induction i with
 |zero=>rfl
 |succ i a=>rw[ni,AV,a]
theorem BN(v i):(sE v i).length=v.length:=by induction i with
 |zero=>rfl
 |succ i a=>rw[sE,AV,a]
theorem Fx(v i):(fM v i).length=v.length:=by induction i with
 |zero=>rfl
 |succ i a=>rw[fM,BN,uN,a]
theorem Kb(g:I)(t:jr)(v:je (jm 32))(a:v.length=16)(i:I)(b:i<4)(w:jc)(h:aQ w g t v):
 js ji 256 #[jG (ja ⟨g,0,jd⟩),A jf i,A jf (4+(i:T)),A jf (8+(i:T)),A jf (12+(i:T))] w λe w'=>
  e=jq (jN #[])/\aZ g w w'/\aQ w' g t (qr v i (4+i) (8+i) (12+i)):=by
 have:=DW g t v a i (4+i) (8+i) (12+i) Y Y Y Y w h
 simpa using this
theorem NU(g:I)(t:jr)(v:je (jm 32))(a:v.length=16)(i:I)(b:i<4)(w:jc)(h:aQ w g t v):
 js ji 256 #[jG (ja ⟨g,0,jd⟩),A jf i,A jf (4+((i:T)+1)%4),A jf (8+((i:T)+2)%4),A jf (12+((i:T)+3)%4)] w λe w'=>
  e=jq (jN #[])/\aZ g w w'/\aQ w' g t (qr v i (4+(i+1)%4) (8+(i+2)%4) (12+(i+3)%4)):=by
 have:=DW g t v a i (4+(i+1)%4) (8+(i+2)%4) (12+(i+3)%4) Y Y Y Y w h
 simpa using this
theorem sk:(ji.info? 5).map (λi=>(i.zero,i.size,i.bytes))=ja (ja (A jF 0),1,1):=by kernel_rfl
theorem Ic(w:jc)(l:je jh)(t:jr):∀j a,l[j]?=ja a->(w.alloc (jj l.toArray t)).cell? ((⟨w,0,jd⟩:jR).add j)=ja a:=by
 intro j a b;have c:(⟨w,0,jd⟩:jR).add j=⟨w,j,jd⟩:=by unfold Addr.add;split<;>simp_all
 rw[c];have d:=jL w (jj l.toArray t);simp only[j8,d]
 simpa using b
theorem aQ.not_row{e:jr}{a:je (jm 32)}(h:aQ W B t a)(b:t≠e){base size k:I}{v:jh}{xs:je jh}(c:W.ownsRow base e size v k xs):ja B≠v.ownBlock:=by
 rcases c.2 with⟨rfl,_⟩|⟨g,i,j,rfl,_,d,_⟩
 ·simp[xh]
 intro f;obtain rfl:B=g:=by simpa [xh]using f
 have:=(show W.heap[B]?=_ from h).symm.trans d;simp at this;exact b this.2
theorem aQ.grown(h:aQ W B t b){c:jC I}(d:W.grownBy a c)(e:ja B≠c):aQ a B t b:=(d.block B h.lt e).trans h
def rE(x:jm 32):af:=[x.setWidth 8,(x>>>8).setWidth 8,(x>>>16).setWidth 8,(x>>>24).setWidth 8]
def mc(v s:je (jm 32)):I->af
 |0=>[]
 |i+1=>mc v s i++rE (v.getD i 0+s.getD i 0)
def nQ(kb a:af)(c:jm 32):af:=mc (fM (eV kb a c) 10) (eV kb a c) 16
theorem Et(x:jm 32):(x.toNat:T)%256=((x.setWidth 8).toNat:T):=by rw[qH];simp
theorem wy(x:jm 32)(n d:I)(a:d=2^n):(x.toNat:T)/(d:T)%256=(((x>>>n).setWidth 8).toNat:T):=by
 rw[yA x n d a,Et]
theorem size46:∀w,(sizeOf 161).run ji w=.ok 1 w:=λw=>by go_simp
theorem agg46:∀w,(isAgg 161).run ji w=.ok jw w:=λw=>by go_simp
theorem Me(V:je (jm 32))(b:V.length=16)(k:I)(hk:k<16)(W:jc):
 (Instr.index 325 (jT (V.map bR).toArray) (A jf (k:T))).run ji W=.ok (A jp ((V.getD k 0).toNat:T)) W:=by
 have c:=qI;have d:(0:T)<=(k:T)/\(k:T)<((16:I):T):=Y;have a:V[k]?=ja (V.getD k 0):=by simp[b,hk,jW]
 unfold Instr.index;simp only[xJ]at a⊢;generalize V[k]?.getD 0=x at a⊢;simp[asIntOf,xt c,part,a,hk]
theorem P3:(ji.info? 325).map (·.size)=ja 16:=by kernel_rfl
theorem FD(w:jc)(c a:jt jh)(d:c.size=16)(b:a.size=16)(e:a.all (·.oneCell')=jg):
 (storeCells ⟨w,0,jd⟩ a.toList 0).run ji (w.alloc (jj c 325))=.ok () (w.alloc (jj a 325)):=
 run_storeCells_new w _ c a (by rw[P3,b]) (by rw[d,b]) e
theorem G1(kb b:af)(c:jm 32)(w:jc)(hk:kb.length=32)(M:b.length=12)(d:pV w):
 js ji 217 #[jT (kb.map v8).toArray,jT (b.map v8).toArray,A jp c.toNat] w λe w'=>
  ∃v,e=jq v/\w'.ownsRow w 5 1 v 64 ((nQ kb b c).map v8)/\jn w w w':=by
 have a3:6<w.heap.size:=kM (d.cell pT 0 G);have f:(kb.map v8).toArray.size=32:=by simp[hk]
 have g:(b.map v8).toArray.size=12:=by simp[M]
 have a:=λw h=>Pk kb b c w hk M h
 generalize i:(kb.map v8).toArray=u at f a⊢;generalize j:(b.map v8).toArray=y at g a⊢;have S:=O i;have U:=O j;have D:=O a;have E:=O d;have F:=O f;have H:=O g;clear a d i j f g;obtain⟨P,Q,R,m,n⟩:=oo sk
 go_enter func217,ntmps217
 go_upto_region 1 with fail
 refine qb ?_;refine qc N 64 _ N w.heap.size N 64 u (0,0) _ ((jH _ _ _ ax).trans (jL w _)) underlying64 N (by rw[F];rfl) ?_;refine qc N 174 _ N (w.heap.size+1) N 174 y (0,0) _ (by have:=jL (w.alloc (jj u 64)) (jj y 174);simpa using this) underlying174 N (by rw[H];rfl) ?_
 go_wp2_with fail
 refine(D _ ?_).mono ?_
 ·exact(Lib.tabBelow_of_tabIs E) _ ⟨N,N,N,by simp;omega,λk hk=>by rw[jH _ _ _ (by simp;omega),jH _ _ _ hk]⟩
 rintro e a ⟨rfl,i⟩;have d:((eV kb b c).map bR).toArray.size=16:=by rw[jZ,kw,zz]
 have g:((eV kb b c).map bR).toArray.all (·.oneCell')=jg:=by
  rw[o4];intro v f;obtain⟨x,_,rfl⟩:=qa.1 (ah f)
  rfl
 generalize j:((eV kb b c).map bR).toArray=f at d g⊢;have l:=O j;have p:=O g;have r:=O i;clear j g i;have g:=FD a #[jb jo 0,jb jo 0,jb jo 0,jb jo 0,jb jo 0,jb jo 0,jb jo 0,jb jo 0,jb jo 0,jb jo 0,jb jo 0,jb jo 0,jb jo 0,jb jo 0,jb jo 0,jb jo 0] f N d p
 go_upto_region 2 with fail
 clear g;refine qb ?_;refine qc N 325 _ N a.heap.size N 325 f (0,0) _ (jL a _) qI N (by rw[d];rfl) ?_;have g:=FD (a.alloc (jj f 325)) #[jb jo 0,jb jo 0,jb jo 0,jb jo 0,jb jo 0,jb jo 0,jb jo 0,jb jo 0,jb jo 0,jb jo 0,jb jo 0,jb jo 0,jb jo 0,jb jo 0,jb jo 0,jb jo 0] f N d p;rw[km]at g
 go_upto_region 4 with fail
 clear g;have i:aQ ((a.alloc (jj f 325)).alloc (jj f 325)) (a.heap.size+1) 325 (fM (eV kb b c) 0):=by
  have:=jL (a.alloc (jj f 325)) (jj f 325);rw[km]at this;show _ =ja (Obj.cells ((eV kb b c).map bR).toArray 325 (0,0));rw[l];exact this
 have j:aQ ((a.alloc (jj f 325)).alloc (jj f 325)) a.heap.size 325 (eV kb b c):=by
  show _ =ja (Obj.cells ((eV kb b c).map bR).toArray 325 (0,0));rw[l,jH _ _ _ ax];exact jL a _
 have t:jn w w ((a.alloc (jj f 325)).alloc (jj f 325)):=by
  have g:jn w w ((w.alloc (jj u 64)).alloc (jj y 174)):=
   ⟨rfl,rfl,rfl,by simp;omega,λk hk=>by rw[jH _ _ _ (by simp;omega),jH _ _ _ hk]⟩
  have o:=g.trans (r.mono (by simp;omega));have v:=o.size;exact o.trans ⟨N,N,N,by simp;omega,λk hk=>by rw[jH _ _ _ (by simp;omega),jH _ _ _ Y]⟩
 have aa:w.heap.size<=a.heap.size:=by have:=r.size;simp at this;omega
 obtain⟨q,z⟩:=J ((a.alloc (jj f 325)).alloc (jj f 325));rw[<-z]at i j t⊢;have ad:a.heap.size+2<=q.heap.size:=by rw[z];simp
 obtain⟨g,K⟩:=J a.heap.size;rw[<-K]at i j aa ad⊢;have B:=O i;have C:=O j;have s:=O t;clear i j t z d p r l E D S U F H K;clear a;have z:(eV kb b c).length=16:=zz _ _ _;have D:jl (nQ kb b c=mc (fM (eV kb b c) 10) (eV kb b c) 16):=O N;generalize eV kb b c=a at B C z D
 go_wp2_with fail
 go_loopw [21] (λt wr=>∃r:I,t=A jf r/\r<=10/\jl (aQ wr (g+1) 325 (fM a r))/\jl (aZ (g+1) q wr)) (λt _=>(10-jy t).toNat)
 case atStart=>exact⟨0,N,by omega,B,aZ.refl _ _⟩
 obtain⟨r,rfl,hr,E,j⟩:=hrel
 by_cases Zr:r<10
 ·have au:=ao ((r:T)<10)
  have S:=O (show(fM a r).length=16 by rw[Fx];exact z)
  go_wp2_with fail
  go_loopw [23] (λt d=>∃i:I,t=A jf i/\i<=4/\jl (aQ d (g+1) 325 (ni (fM a r) i))/\jl (aZ (g+1) q d)) (λt _=>(4-jy t).toNat)
  case atStart=>exact⟨0,N,by omega,E,j⟩
  obtain⟨i,rfl,hi,d,U⟩:=hrel
  by_cases W:i<4
  ·go_wp2_with fail
   refine(Kb _ _ _ ?_ i W _ d.out).mono ?_
   ·rw[uN];exact S
   rintro e w' ⟨rfl,l,p⟩;have F:=O (U.trans l);have H:=O p;clear l p
   go_wp2
   go_roundw
   case rel=>exact⟨i+1,by go_num,by omega,H,F⟩
   case measure=>simp[jy];omega
  have a1:=ap ((i:T)<4);have K:i=4:=Y;have X:jl (aQ wr (g+1) 325 (ni (fM a r) 4)):=K▸d;clear d K
  go_wp2_with fail
  go_loopw [36] (λt K=>∃d:I,t=A jf d/\d<=4/\jl (aQ K (g+1) 325 (sE (ni (fM a r) 4) d))/\jl (aZ (g+1) q K)) (λt _=>(4-jy t).toNat)
  case atStart=>exact⟨0,N,by omega,X,U⟩
  obtain⟨d,rfl,hd,K,V⟩:=hrel
  by_cases al:d<4
  ·go_wp2_with fail
   refine(NU _ _ _ ?_ d al _ K.out).mono ?_
   ·rw[BN,uN];exact S
   rintro e w' ⟨rfl,l,p⟩;have F:=O (V.trans l);have H:=O p;clear l p
   go_wp2
   go_roundw
   case rel=>exact⟨d+1,by go_num,by omega,H,F⟩
   case measure=>simp[jy];omega
  have l:d=4:=Y;have p:jl (aQ wr (g+1) 325 (fM a (r+1))):=by
   have h:=K;rw[l]at h;exact h
  clear K l
  go_wp2
  go_roundw
  case rel=>exact⟨r+1,by go_num,by omega,p,V⟩
  case measure=>simp[jy];omega
 have d:r=10:=Y;have p:jl (aQ wr (g+1) 325 (fM a 10)):=d▸E;clear E d
 go_upto_region 17 with fail
 refine qb ?_;refine wpList_make_own wr N _ _ 50 N w.heap.size 5 P (A jF 0) 1 jQ Q R m .i64 .i64 64 64 N N N (by rw[n];decide) (by unfold j0;omega) ?_ ?_
 ·have:=j.size;have:=s.size;omega
 intro E al d;have H:aQ E (g+1) 325 (fM a 10):=p.grown d ax;have K:aQ E g 325 a:=aQ.grown ((j.block _ Y).trans C) d ax;have S:jn w w E:=(s.trans (j.below Y)).grown d (by have:=j.size;have:=s.size;omega) ax;have F:(fM a 10).length=16:=by rw[Fx];exact z
 have l:=O H;have Tf:=O K;have RI:=O S;clear H K S p j C B s d;generalize fM a 10=V at l F D
 go_upto_region 18 with fail
 refine qb ?_;refine qc N 325 _ N (g+1) N 325 (V.map bR).toArray (0,0) _ l.out qI N (by rw[jZ,kw,F];rfl) ?_;have d:∀(k:I) (hk:k<16) (W:jc),(Instr.index 325 (jT (V.map bR).toArray) (A jf (k:T))).run ji W=.ok (A jp ((V.getD k 0).toNat:T)) W:=λk hk W=>Me V F k hk W
 generalize(V.map bR).toArray=a4 at d⊢;have K:=O d;clear d l
 go_wp2_with fail
 go_loopw [12,58] (λl t wr=>∃k:I,t=A jf k/\k<=16/\wr.ownsRow w 5 1 l (4*k) ((mc V a k).map v8)/\jl (aQ wr g 325 a)/\jl (jn w w wr)) (λ_ t _=>(16-jy t).toNat)
 case atStart=>exact⟨0,N,by omega,al,Tf,RI⟩
 obtain⟨k,rfl,a5,d,s,t⟩:=hrel
 by_cases Zs:k<16
 ·have H:=K k Zs
  have S:=s.cell (i:=k) Y;have j:mc V a (k+1)=mc V a k++rE (V.getD k 0+a.getD k 0):=N;generalize V.getD k 0=U at H j;generalize a.getD k 0=xs at S j;have B:=O j;clear j
  go_upto_region 22 with fail
  rw[kq U xs];generalize hx:U+xs=x at B⊢;have au:(x.toNat:T)%256=_:=Et x;have a1:(x.toNat:T)/256%256=_:=wy x 8 256 G;have a2:(x.toNat:T)/65536%256=_:=wy x 16 65536 G;have C:(x.toNat:T)/(16777216:T)=(((x>>>24).setWidth 8).toNat:T):=by
   have:=wy x 24 16777216 G;have j:=x.isLt;rw[<-this];omega
  generalize v:x.setWidth 8=j at au;generalize m:(x>>>8).setWidth 8=l at a1;generalize n:(x>>>16).setWidth 8=p at a2;generalize X:(x>>>24).setWidth 8=y3 at C;have HY:jl (rE x=[j,l,p,y3]):=O (by rw[rE,v,m,n,X]);clear hx v m n X H S;have S:=t.size;have H:(mc V a k++rE x).map v8=(mc V a k).map v8++[A jF j.toNat,A jF l.toNat,A jF p.toNat,A jF ((x.toNat:T)/(16777216:T))]:=by
   rw[HY,C];simp[v8]
  clear C;rw[<-B]at H;have X:=O H;clear H B HY
  go_wp2_with (at_builtin;refine q8 _ N _ _ 50 N w.heap.size 5 P (A jF 0) 1 1 jQ Q R m n N G _ _ _ N (d.alloc _) ⟨wr,0,jd⟩ 4 4 [A jF j.toNat,A jF l.toNat,A jF p.toNat,A jF ((x.toNat:T)/(16777216:T))] N N (Ic _ _ _) (by simp[qV]) (by unfold j0;omega) Y (by simp;omega) ?_;intro H w4 B C _)
  rw[<-X]at B;go_roundw
  case rel=>
   refine⟨k+1,by go_num,by omega,B,?_,?_⟩
   ·have o:aQ (wr.alloc (jj #[A jF j.toNat,A jF l.toNat,A jF p.toNat,A jF ((x.toNat:T)/(16777216:T))] 5)) g 325 a:=(jH _ _ _ s.lt).trans s
    exact o.grown C (o.not_row G (d.alloc _))
   exact(t.alloc S _).grown C (by simp;omega) (λk e=>(d.lt k e).1)
  case measure=>simp[jy];omega
 have i:k=16:=Y;rw[i,<-D]at d;have j:=O d;clear d i K
 go_wp2
 go_ret;exact⟨_,N,j,t⟩
theorem lV{i:I}{d:jh}{m:I}{xs:je jh}(h:w.ownsRow g t i d m xs)(b:B<=g):w.ownsRow B t i d m xs:=by
 refine⟨h.1,?_⟩
 rcases h.2 with c|⟨a,v,f,size,j,k⟩
 ·exact .inl c
 exact .inr ⟨a,v,f,size,oi b j,k⟩
def aP(w:jc)(v:jh)(l:af):Prop:=
 ∃(p:jC jR) (c:I),v=ju p l.length c/\l.length<=c/\(p=jd->c=0)/\
  (0<l.length->∃g o,p=ja ⟨g,o,jd⟩/\∀j,j<l.length->w.cell? ⟨g,o+j,jd⟩=ja (A jF (l.getD j 0).toNat))
theorem Ik(w:jc):
 js ji 215 #[ju jd 0 0] w λe w'=>e=jq (ju jd 0 0)/\w=w':=by
 have d:∀(w:jc) (a:jC jR) (n c n' b:I),(binOp .eql 50 (ju a n c) (ju jd n' b)).run ji w=.ok (.bool a.isNone) w:=λw a n c n' b=>Lib.run_eql_slice_nil w _ _ a n c n' b jQ
 go_enter func215,ntmps215
 go_wp2
 go_ret;exact⟨N,N⟩
theorem Q3(g o c:I)(l:af)(t:l.length<=1000000)(w:jc)(h:∀j,j<l.length->w.cell? ⟨g,o+j,jd⟩=ja (A jF (l.getD j 0).toNat)):
 js ji 215 #[ju (ja ⟨g,o,jd⟩) l.length c] w λe w'=>∃v,e=jq v/\w'.ownsRow w 5 1 v l.length (l.map v8)/\jn w w w':=by
 have D:∀(w:jc) (a:jC jR) (n c n' f:I),(binOp .eql 50 (ju a n c) (ju jd n' f)).run ji w=.ok (.bool a.isNone) w:=λw a n c n' f=>Lib.run_eql_slice_nil w _ _ a n c n' f jQ
 obtain⟨u,y,z,B,C⟩:=oo sk;have m:∀j b,(l.map v8)[j]?=ja b->(w.alloc (jj #[] 5)).cell? ((⟨g,o,jd⟩:jR).add j)=ja b:=by
  intro j b i;have d:j<l.length:=by
   have:=(m0.1 i).1
   simpa using this
  have p:(⟨g,o,jd⟩:jR).add j=⟨g,o+j,jd⟩:=by unfold Addr.add;split<;>simp_all
  rw[p];have k:b=A jF (l.getD j 0).toNat:=by
   simp[d]at i;simp[<-i,v8,d,jW]
  rw[k];exact fG (h j d) (jH _ _ _ (kM (h j d)))
 have i:(w.alloc (jj #[] 5)).ownsRow w.heap.size 5 1 (ju (ja ⟨w,0,jd⟩) 0 0) 0 []:=
  ⟨rfl,.inr ⟨w.heap.size,0,#[],rfl,jA _,jL w _,jA _,by unfold j0;omega,rfl,rfl⟩⟩
 have p:∀b∈l.map v8,b.oneCell'=jg:=by
  intro b k;obtain⟨x,_,rfl⟩:=qa.1 k
  rfl
 have q:=O m;have r:=O i;have s:=O p;have k:(l.map v8).length=l.length*1:=by simp
 have d:=O k;clear m i p k h;obtain⟨i,h⟩:=J (l.map v8);rw[<-h]at q s d⊢;clear h;generalize l.length=n at t d⊢
 go_enter func215,ntmps215
 go_wp2_with (at_builtin;refine q8 _ N _ _ 50 N w.heap.size 5 u (A jF 0) 1 1 jQ y z B C N G _ _ _ N r ⟨g,o,jd⟩ n c i N d q s (by unfold j0;omega) Y ax ?_;intro h x m p _)
 go_ret;refine⟨h,N,by simpa using m,?_⟩;exact Below.grown (w:=w.alloc (jj #[] 5)) ⟨N,N,N,by simp,λk hk=>jH _ _ _ hk⟩ p ax (λk e=>(r.lt k e).1)
def lM(l:af):je T:=l.map λb=>(b.toNat:T)
theorem Qt(l):(lM l).length=l.length:=by simp[lM]
def kg(l:af):ByteArray:=strOfNums (lM l)
theorem Fa{β:Type}{f:H->β}(c:∀a b,f a=f b->a=b):∀(l m:je H),l.map f=m.map f->l=m
 |[],[],_=>rfl
 |[],_ ::_,h=>by simp at h
 |_ ::_,[],h=>by simp at h
 |a::l,b::m,h=>by
  simp only[qS,List.cons.injEq]at h;rw[c a b h.1,Fa c l m h.2]
theorem GB{m:af}(h:(kg c).toList=(kg m).toList):c=m:=by
 have l:Lib.bytesOf (lM c)=Lib.bytesOf (lM m):=by
  rw[<-Lib.strOfNums_toList,<-Lib.strOfNums_toList];exact h
 unfold Lib.bytesOf lM at l;rw[xi,xi]at l;refine Fa ?_ c m l;intro a b d;have e:UInt8.ofNat a.toNat=UInt8.ofNat b.toNat:=ah d;have f:=jD UInt8.toNat e;have g:=a.isLt;have i:=b.isLt;simp at f
 apply BitVec.eq_of_toNat_eq
 omega
theorem mR{v:jh}{l:af}(h:aP w v l):(convert 50 9 v).run ji w=.ok (qt (kg l)) w:=by
 obtain⟨p,c,rfl,j,k,d⟩:=h;refine Lib.BytesIn.convert (xs:=lM l) ?_ (Qt l) c _ 5 _ jQ qY qw
 rcases pz l.length with a|a
 ·rw[a]
  exact Lib.BytesIn.nil _ _ _
 obtain⟨g,o,rfl,e⟩:=d a;refine Lib.BytesIn.of_cells λi b=>?_
 have f:(⟨g,o,jd⟩:jR).add i=⟨g,o+i,jd⟩:=by unfold Addr.add;split<;>simp_all
 rw[f,e i b];simp[lM,b,jW]
theorem OQ(v b:jh)(l m:af)(w:jc)(c:aP w v l)(d:aP w b m):
 js ji 74 #[v,b] w λe w'=>e=jq (.bool (decide (l=m)))/\w=w':=by
 have f:=mR c;have g:=mR d;have a:((kg l).toList==(kg m).toList)=decide (l=m):=by
  by_cases h:l=m
  ·subst h;simp
  have i:(kg l).toList≠(kg m).toList:=λe=>h (GB e)
  simp only[h,decide_false,beq_eq_false_iff_ne,ne_eq];exact i
 generalize decide (l=m)=D at a⊢;clear c d;generalize kg l=c at f a;generalize kg m=d at g a
 go_enter func74,ntmps74
 go_wp2
 go_ret;exact⟨N,N⟩
theorem Q7(n:I)(r:n<=1000000)(w:jc):
 js ji 177 #[ju jd 0 0,A jf n] w λe w'=>∃v,e=jq v/\w'.ownsRow w 5 1 v 0 []/\jn w w w':=by
 rcases pz n with b|b
 ·subst b
  go_enter func177,ntmps177
  go_wp2
  go_ret;exact⟨_,N,xj _ _ _ _,jK _ _⟩
 obtain⟨i,f,g,j,h⟩:=oo sk;have a:=Lib.run_append_nil_zeros (P:=ji) w 50 3 50 5 i (A jF 0) .i64 .i64 jQ jP f g n b Y Y (by rw[h];omega);have l:=grownCap_ge w n 0 5;have c:=grownCap_le_maxLen w n 0 5 (by unfold j0;omega);generalize grownCap w n 0 5=C at a l c;have d:(Builtin.zeroCells (jb .u8 0).cells n++Builtin.zeroCells (jb .u8 0).cells (C-n)).size=C*1:=by
  simp[Builtin.zeroCells,Value.cells];omega
 generalize Builtin.zeroCells (jb .u8 0).cells n++Builtin.zeroCells (jb .u8 0).cells (C-n)=m at a d;have o:=O a;have p:=O d;have q:=O c;clear a d c f g j h;have a:(0:T)<(n:T):=Y
 go_enter func177,ntmps177
 go_wp2_with (at_builtin;refine Lib.wpList_append_run _ N _ _ 50 3 N _ _ N N _ _ o.out ?_)
 go_ret;refine⟨_,N,⟨N,.inr ⟨w.heap.size,C,m,N,jA _,jL w.drew _,p6 _,q,p,N⟩⟩,?_⟩;exact⟨N,N,N,by simp,λk hk=>jH w.drew _ _ hk⟩
theorem B4(l:af):∀a∈l.map v8,a.oneCell'=jg:=by
 intro a b;obtain⟨x,_,rfl⟩:=qa.1 b
 rfl
theorem Ov(g o j:I):(⟨g,o,jd⟩:jR).add j=⟨g,o+j,jd⟩:=by unfold Addr.add;split<;>simp_all
theorem BB{w:jc}{k:jt jz}{m:je jz}{o:jz}{a:Act}{q:jV->Act->jc->Prop}(r:o.guard=jd)(s x:lm)
 (t:o.op=.call {callee:=.builtin .append,args:=#[s,x],argTypes:=#[50,50]}) (base:I)
 (v:jh) (n:I) (xs:je jh) (u:a.eval s=v) (d:w.ownsRow base 5 1 v n xs) (f:jh) (l:af) (y:a.eval x=f) (C:aP w f l)
 (R:n+l.length<=100000000) (D:base<=w.heap.size)
 (h:∀b w',w'.ownsRow base 5 1 b (n+l.length) (xs++l.map v8)->w.grownBy w' v.ownBlock->ms ji k q m (a.put o.dst b) w'):ms ji k q (o::m) a w:=by
 obtain⟨z,B,E,F,H⟩:=oo sk;obtain⟨p,c,rfl,S,K,M⟩:=C
 rcases p with _|P
 ·have e:=K N
  subst e;have g:l=[]:=wi Y;subst g;exact wpList_append_own_none r s x 50 t base 5 z 1 jQ B v n xs u d y (h v w (ah d) (qQ.refl _ _))
 refine q8 w r s x 50 t base 5 z (A jF 0) 1 1 jQ B E F H N G v n xs u d P l.length c (l.map v8) y ax ?_ (B4 l) (by unfold j0;omega) Y D (λb w' e g _=>h b w' e g);intro j f b;have i:j<l.length:=by
  have:=(m0.1 b).1
  simpa using this
 obtain⟨g,o,e,Q⟩:=M Y;obtain rfl:=wq.inj e;rw[Ov,Q j i];simp[i]at b;simp[<-b,v8,i,jW]
theorem aP.below{v:jh}{l:af}(h:aP w v l)(d:jn w w w'):aP w' v l:=by
 obtain⟨p,c,rfl,f,i,k⟩:=h;refine⟨p,c,N,f,i,λm=>?_⟩;obtain⟨g,o,e,a⟩:=k m;exact⟨g,o,e,λj b=>fG (a j b) (d.block _ (kM (a j b)))⟩
theorem aP.of_own{v:jh}{l:af}(h:w.ownsRow B 5 1 v l.length (l.map v8)):aP w v l:=by
 rcases h.2 with⟨rfl,c⟩|⟨g,d,f,rfl,n,i,k,o,p,m⟩
 ·exact⟨jd,0,by rw[c],by omega,λ_=>rfl,λa=>by omega⟩
 refine⟨ja ⟨g,0,jd⟩,d,N,k,λe=>by simp at e,λ_=>⟨g,0,rfl,λj a=>?_⟩⟩;have b:(f.toList.take (l.length*1))[j]?=(l.map v8)[j]?:=by rw[m]
 simp only[j8,i];have q:j<l.length*1:=Y;simp[a]at b;simp[b,v8,jW,a]
def fC(a:je (af))(k:I):af:=(a.take k).flatten
theorem Ge(a:je (af))(k:I)(hk:k<a.length):fC a (k+1)=fC a k++a.getD k []:=by
 unfold fC;rw[List.take_add_one,xK];simp[hk,jW]
theorem zv(a:je (af))(k:I):(fC a k).length<=a.flatten.length:=by
 have h:a.flatten=fC a k++(a.drop k).flatten:=by
  unfold fC;rw[<-xK,List.take_append_drop]
 rw[h];simp
theorem te(g m:I)(t:jr)(f:je jh)(a:je (af))(u:f.length=m)(x:a.length=m)(M:a.flatten.length<=1000000)(w:jc)
 (b:w.heap[g]?=ja (jj f.toArray t (0,0))) (c:∀i,i<m->aP w (f.getD i jE) (a.getD i [])) (P:m<=1000):
 js ji 124 #[ju (ja ⟨g,0,jd⟩) m m] w λe w'=>∃v,e=jq v/\w'.ownsRow w 5 1 v a.flatten.length (a.flatten.map v8)/\jn w w w':=by
 have y:g<w.heap.size:=(jO.1 b).1;have o:jl (∀i,i<m->w.cell? ⟨g,i,jd⟩=ja (f.getD i jE)):=O λi z=>by
  simp[j8,b,u,z,jW]
 have r:=O c;clear c b
 go_enter func124,ntmps124
 go_wp2_with fail
 go_loopw [3,11] (λs b wr=>∃k:I,b=A jf k/\k<=m/\s=A jf ((fC a k).length:I)/\wr=w) (λ_ b _=>(m-jy b).toNat)
 case atStart=>exact⟨0,N,by omega,rfl,rfl⟩
 obtain⟨k,rfl,hk,rfl,c⟩:=hrel;have B:=c.symm;subst B;clear c
 by_cases s:k<m
 ·have l:=o k s
  have C:=zv a (k+1);have d:=Ge a k Y;obtain⟨p,c,j,D,E,n⟩:=r k s;rw[j]at l;have h:(fC a (k+1)).length=(fC a k).length+(a.getD k []).length:=by rw[d];simp
  clear j n d;generalize(a.getD k []).length=n at l h D;have j:=O h;clear h;generalize(fC a k).length=q at j⊢;have F:¬((q:T)+(n:T)<0):=Y;have H:q+n<=1000000:=aA j
  go_wp2
  refine⟨⟨k+1,by go_num,by omega,?_,trivial⟩,by simp[jy];omega⟩;rw[j];simp
 have Q:jl (k=m):=O Y;have C:=zv a k
 go_wp2_with fail
 refine(Q7 _ Y _).mono ?_;rintro e R ⟨v,rfl,D,c⟩;have E:=O c;clear c
 go_wp2_with fail
 go_loopw [6,27] (λl b c=>∃j:I,b=A jf j/\j<=m/\c.ownsRow w 5 1 l (fC a j).length ((fC a j).map v8)/\jl (jn w w c)) (λ_ b _=>(m-jy b).toNat)
 case atStart=>exact⟨0,N,by omega,by simpa [fC]using D,E⟩
 obtain⟨j,rfl,S,b,c⟩:=hrel
 by_cases n:j<m
 ·have F:=fG (o j n) (c.block _ y)
  have l:=(r j n).below c;have d:=Ge a j Y;have p:=zv a (j+1);generalize f.getD j jE=U at F l;generalize a.getD j []=q at d l;have V:=c.size;have h:(fC a j).length+q.length<=1000000:=by rw[d,qv]at p;omega
  have H:=O d;have K:=O l;clear d l p
  go_wp2_with (at_builtin;refine BB N _ _ N w.heap.size _ _ _ N b _ q N K Y Y ?_;intro p W d l)
  go_roundw
  case rel=>
   refine⟨j+1,by go_num,by omega,?_,c.grown l Y (λk e=>(b.lt k e).1)⟩;rw[H]
   simpa using d
  case measure=>simp[jy];omega
 have d:j=m:=Y;have h:fC a j=a.flatten:=by rw[d,<-x];simp[fC]
 rw[h]at b;have l:=O b;clear b d h
 go_wp2
 go_ret;exact⟨_,N,l,c⟩
section
variable{B b i:I}{c w:jc}{h:je jh}{a f:jh}{e t:jr}{cs:jt jh}
structure bS(B:I)(e:jr)(sz:I)(w w':jc)(v a:jh)(n:I)(xs:je jh):Prop where
 own:w'.ownsRow B e sz a n xs
 grown:w.grownBy w' v.ownBlock
 lies:∀k,a.ownBlock=ja k->v.ownBlock=ja k\/w.heap.size<=k
theorem bS.trans{sz n n':I}{d:jc}{v g:jh}{xs i:je jh}(h:bS B e sz w c v f n xs)(k:bS B e sz c d f g n' i):bS B e sz w d v g n' i:=by
 refine⟨k.own,⟨k.grown.os.trans h.grown.os,k.grown.tape.trans h.grown.tape,k.grown.output.trans h.grown.output,oi h.grown.size k.grown.size,λj b l=>?_⟩,λj b=>?_⟩
 ·refine(k.grown.block j (ql b h.grown.size) (λe=>?_)).trans (h.grown.block j b l)
  rcases h.lies j e.symm with a|a
  ·exact l a.symm
  omega
 rcases k.lies j b with a|a
 ·exact h.lies j a
 exact .inr (oi h.grown.size a)
theorem bS.after{g:jc}(v:jn w w c)(k:bS B e i c g a f b h):bS B e i w g a f b h:=by
 refine⟨k.own,⟨k.grown.os.trans v.os,k.grown.tape.trans v.tape,k.grown.output.trans v.output,oi v.size k.grown.size,λj n sz=>?_⟩,λj n=>?_⟩
 ·exact(k.grown.block j (ql n v.size) sz).trans (v.block j n)
 rcases k.lies j n with d|d
 ·exact .inl d
 exact .inr (oi v.size d)
theorem bS.below{sz n:I}{w':jc}{v:jh}{xs b:je jh}{m:I}(h:bS B e sz w w' v a n xs)(c:w.ownsRow B e sz v m b)(d:B<=w.heap.size):jn B w w':=
 ⟨h.grown.os,h.grown.tape,h.grown.output,h.grown.size,λk hk=>h.grown.block k Y (λe=>by have:=(c.lt k e.symm).1;omega)⟩
theorem bS.old(xs:bS B e i w c a f b h){g:I}{o:Obj}(v:w.heap[g]?=ja o)(w':a.ownBlock≠ja g):c.heap[g]?=ja o:=
 (xs.grown.block g (jO.1 v).1 (λe=>w' e.symm)).trans v
theorem bS.ne(xs:bS B e i w c a f b h){g:I}(d:g<w.heap.size)(w':a.ownBlock≠ja g):f.ownBlock≠ja g:=λe=>by
 rcases xs.lies g e with n|n
 ·exact w' n
 omega
theorem bS.drop(xs:bS B e i w c a f b h):bS B e i w c a f b h:=xs
theorem bS.refl(xs:w.ownsRow B e i a b h):bS B e i w w a a b h:=
 ⟨xs,qQ.refl _ _,λ_ xs=>.inl xs⟩
theorem cJ(xs:w.ownsRow B e i a b h){g:I}(v:w.heap.size<=g\/g<B):a.ownBlock≠ja g:=λe=>by
 have:=xs.lt g e;omega
theorem dx(xs:w.ownsRow B e i a b h)(w':jn w w c):c.ownsRow B e i a b h:=by
 refine⟨xs.1,?_⟩
 rcases xs.2 with v|⟨g,d,f,sz,v,n,j⟩
 ·exact .inl v
 exact .inr ⟨g,d,f,sz,v,(w'.block g (jO.1 n).1).trans n,j⟩
theorem a8(xs:w.ownsRow B e i a b h):∃p c,a=ju p b c:=by
 rcases xs.2 with⟨rfl,v⟩|⟨g,n,d,rfl,-⟩
 ·exact⟨jd,0,by rw[v]⟩
 exact⟨_,n,N⟩
section
variable {P:jI}
theorem mj(n:c.ownsRow B e i f b h)(w':w.grownBy c a.ownBlock)(d:f.ownBlock=a.ownBlock\/f.ownBlock=ja w.heap.size):bS B e i w c a f b h:=by
 refine⟨n,w',λk hk=>?_⟩
 rcases d with xs|xs
 ·exact .inl (xs▸hk)
 rw[xs]at hk;injection hk with hk
 exact .inr Y
theorem Jo{w c:jc}{B:I}{a f:jr}{i:TypeInfo}(l:P.underlying e=ja (.slice t))(m:P.underlying a=ja .string)(o:P.info? t=ja i)(q:i.zero=ja (A jF 0))
 (r:i.size=1) (u:i.bytes=1) {v h:jh} {n:I} {xs:je jh} (p:w.ownsRow B t 1 v n xs) {s:ByteArray} (H:n+s.size<=140737488355328)
 (b:(Builtin.append_ #[e,a] f #[v,qt s]).run P w=.ok h c) (z:h=ju jd 0 0↔v=ju jd 0 0/\s.size=0):h.ownBlock=v.ownBlock\/h.ownBlock=ja w.heap.size:=by
 have base:xs.length=n:=ah p.1
 rcases p.2 with⟨rfl,rfl⟩|⟨g,k,x,rfl,K,C,M,Q,D,R⟩
 ·by_cases j:s.size=0
  ·rw[z.2 ⟨N,j⟩];exact .inl N
  have w':=run_append_nil_string (P:=P) w e a f t i (A jF 0) l m o q s Y Y (by rw[u];omega);rw[w']at b;injection b with d y
  rw[<-d];exact .inr N
 by_cases E:n+s.size<=k
 ·have j:x.size=k:=ah D
  have w':=Lib.run_append_room_string (P:=P) w e a f t i l m o r g n k x C s E Y;rw[w']at b;injection b with d y
  rw[<-d];exact .inl N
 have F:∀j a,xs[j]?=ja a->w.cell? ((⟨g,0,jd⟩:jR).add j)=ja a:=p.cells (g:=g) N;have w':=Lib.run_append_grow_string (P:=P) w e a f t i (A jF 0) l m o q ⟨g,0,jd⟩ n k xs (by rw[r];simpa using base) F s Y Y (by rw[u];exact growslice_fits Y Y);rw[w']at b;injection b with d y
 rw[<-d];exact .inr N
end
theorem eU(W:jc)(xs:je jh)(t:jr)(fr:I×I)(sz n c:I)(a:xs.length=n*sz)(b:n<=c):cO (W.alloc (jj xs.toArray t fr)) (ju (ja ⟨W,0,jd⟩) n c) sz n xs:=by
 refine⟨a,ja ⟨W,0,jd⟩,c,N,b,(λh=>by cases h),λ_=>⟨W.heap.size,0,N,λj f d=>?_⟩⟩;have e:=jL W (jj xs.toArray t fr);unfold j8;simp only[e]
 simpa using d
theorem ai(W:jc)(o:Obj):jn W W (W.alloc o):=(jK _ W).alloc (jA _) _
structure ln(g:I)(w w':jc):Prop where
 os:w'.os=w.os
 tape:w'.tape=w.tape
 output:w'.output=w.output
 size:w'.heap.size=w.heap.size
 block:∀k,k≠g->w'.heap[k]?=w.heap[k]?
theorem ln.below{g:I}{w':jc}(h:ln g w w')(a:B<=g):jn B w w':=
 ⟨h.os,h.tape,h.output,qA h.size.symm,λk hk=>h.block k Y⟩
theorem vQ{P:jI}{W:jc}{g:I}{v:jh}(a:W.heap[g]?=ja (jj cs t (0,0)))(c:i<cs.size)(d:v.oneCell'=jg):
 ∃b,(store ⟨g,i,jd⟩ v).run P W=.ok () b/\b.heap[g]?=ja (jj (cs.setIfInBounds i v) t (0,0))/\ln g W b:=by
 refine⟨W.setCell ⟨g,i,jd⟩ v,?_,heap_setCell_same W g i cs t v a,⟨N,N,N,by simp[xg],λk hk=>ow _ _ _ _ hk⟩⟩;have e:W.cell? ⟨g,i,jd⟩=ja cs[i]:=by
  unfold j8;simp[a,c]
 rw[run_store _ _ _ v _ d,e];simp[frozen_of_row W g i cs t a]
theorem cE{W:jc}{g:I}(v:jh)(a:W.heap[g]?=ja (jj cs t (0,0)))(b:i<cs.size):
 (∃c,W.cell? ⟨g,i,jd⟩=ja c)/\W.frozen? ⟨g,i,jd⟩=jw/\(W.setCell ⟨g,i,jd⟩ v).heap[g]?=ja (jj (cs.setIfInBounds i v) t (0,0))/\ln g W (W.setCell ⟨g,i,jd⟩ v):=by
 refine⟨⟨cs[i],?_⟩,frozen_of_row W g i cs t a,heap_setCell_same W g i cs t v a,⟨N,N,N,by simp[xg],λk hk=>ow _ _ _ _ hk⟩⟩;unfold j8;simp[a,b]
theorem ae{W:jc}{g:I}{fr:I×I}{v:jh}(a:W.heap[g]?=ja (jj cs t fr))(b:cs[i]?=ja v):W.cell? ⟨g,i,jd⟩=ja v:=by
 unfold j8;simp[a,b]
theorem Il(s:ByteArray):Lib.strCells s=(s.data.toList.map UInt8.toBitVec).map v8:=by
 unfold Lib.strCells;rw[xi]
 rfl
theorem sl(l:af):∀a∈l.map v8,a.oneCell'=jg:=by
 intro a b;obtain⟨x,-,rfl⟩:=qa.1 b
 rfl
theorem aP.row{v:jh}{l:af}(h:aP w v l):cO w v 1 l.length (l.map v8):=by
 obtain⟨p,c,rfl,b,d,f⟩:=h;refine⟨by simp,p,c,N,b,d,λi=>?_⟩;obtain⟨g,o,e,k⟩:=f i;refine⟨g,o,e,λj n a=>?_⟩;rw[xm]at a
 cases hx:l[j]? with
 |none=>rw[hx]at a;cases a
 |some x=>
  rw[hx]at a;injection a with a
  have m:=(m0.1 hx).1;rw[k j m,<-a];simp[jW,hx]
theorem BA:(ji.info? 5).map (λi=>(i.zero,i.size,i.bytes))=ja (ja (A jF 0),1,1):=by kernel_rfl
theorem nO{w:jc}{o:jz}{a:Act}{K:Act->jc->Prop}{e:jV->Act->jc->Prop}(s x:lm)
 (f:o.op=.call {callee:=.builtin .append,args:=#[s,x],argTypes:=#[50,50]})
 (B:I) (v:jh) (n:I) (xs:je jh) (g:a.eval s=v) (i:w.ownsRow B 5 1 v n xs) (b:jh) (m:I) (c:je jh) (j:a.eval x=b) (k:cO w b 1 m c) (l:∀b∈c,b.oneCell'=jg)
 (E:n+m<=4000000) (p:B<=w.heap.size) (h:∀d w',bS B 5 1 w w' v d (n+m) (xs++c)->K (a.put o.dst d) w'):o.wp ji a w K e:=by
 obtain⟨q,r,t,u,y⟩:=oo BA;exact mN s x 50 f B 5 q (A jF 0) 1 1 jQ r t u y N G v n xs g i b m c j k l (by unfold j0;omega) Y p
  λd w' z C D=>h d w' (mj z C D)
theorem Lg{w:jc}{o:jz}{a:Act}{K:Act->jc->Prop}{l:jV->Act->jc->Prop}(s x:lm)
 (m:o.op=.call {callee:=.builtin .append,args:=#[s,x],argTypes:=#[50,9]})
 (B:I) (v:jh) (n:I) (xs:je jh) (p:a.eval s=v) (d:w.ownsRow B 5 1 v n xs) (b:ByteArray) (q:a.eval x=qt b)
 (C:n+b.size<=4000000) (r:B<=w.heap.size) (h:∀c w',bS B 5 1 w w' v c (n+b.size) (xs++(b.data.toList.map UInt8.toBitVec).map v8)->K (a.put o.dst c) w'):o.wp ji a w K l:=by
 obtain⟨t,e,f,g,i⟩:=oo BA;obtain⟨c,w',j,k,u,y⟩:=Lib.run_append_own_string (P:=ji) w B 50 9 o.type 5 t jQ qw e f g i v n xs d b (by unfold j0;omega) Y r;have z:=Jo jQ qw e f g i d Y j y;rw[Il]at k;unfold Oper.wp jY;simp only[m,resolve,invoke,builtin,Sem.run_bind,Sem.run_pure,Result.andThen_ok,wt,qS,wx,p,q,j];exact h c w' (mj k u z)
theorem aO(xs:jl (w.ownsRow B e i a b h))(v:jn w w c):jl (c.ownsRow B e i a b h):=O (dx xs v)
end
theorem OR(x:jm 32)(w:jc):
 js ji 242 #[A jp x.toNat,A jf 6,A jf 11,A jf 25] w λe w'=>
  e=jq (A jp (x.rotateRight 6^^^x.rotateRight 11^^^x.rotateRight 25).toNat)/\w=w':=by
 obtain⟨a,d⟩:=J (x.rotateRight 6);obtain⟨b,f⟩:=J (x.rotateRight 11);obtain⟨c,g⟩:=J (x.rotateRight 25);have h:=Oy x;have i:=N3 x;have j:=QZ x;rw[<-d]at h⊢;rw[<-f]at i⊢;rw[<-g]at j⊢;clear d f g
 go_enter func242,ntmps242
 go_wp2_with fail
 refine(h _).mono ?_;rintro e w' ⟨rfl,rfl⟩
 go_wp2_with fail
 refine(i _).mono ?_;rintro e w' ⟨rfl,rfl⟩
 go_wp2_with fail
 refine(j _).mono ?_;rintro e w' ⟨rfl,rfl⟩
 go_wp2
 go_ret;exact⟨fp (by rw[gR,gR]),N⟩
theorem Pn(x:jm 32)(w:jc):
 js ji 242 #[A jp x.toNat,A jf 2,A jf 13,A jf 22] w λe w'=>
  e=jq (A jp (x.rotateRight 2^^^x.rotateRight 13^^^x.rotateRight 22).toNat)/\w=w':=by
 obtain⟨a,d⟩:=J (x.rotateRight 2);obtain⟨b,f⟩:=J (x.rotateRight 13);obtain⟨c,g⟩:=J (x.rotateRight 22);have h:=GT x;have i:=ID x;have j:=KQ x;rw[<-d]at h⊢;rw[<-f]at i⊢;rw[<-g]at j⊢;clear d f g
 go_enter func242,ntmps242
 go_wp2_with fail
 refine(h _).mono ?_;rintro e w' ⟨rfl,rfl⟩
 go_wp2_with fail
 refine(i _).mono ?_;rintro e w' ⟨rfl,rfl⟩
 go_wp2_with fail
 refine(j _).mono ?_;rintro e w' ⟨rfl,rfl⟩
 go_wp2
 go_ret;exact⟨fp (by rw[gR,gR]),N⟩
def nP(l:af):I->jm 32
 |0=>0
 |j+1=>nP l j<<<8|||(l.getD j 0).setWidth 32
theorem Qb(a:jm 32)(y:jm 8):bits .or .u32 ((a.toNat:T)*256%4294967296) (y.toNat:T)=((a<<<8|||y.setWidth 32).toNat:T):=by
 have b:((a.toNat:T)*(256:T)%(4294967296:T))=((a<<<8).toNat:T):=by
  rw[xd,qT];simp
 rw[b,Cw y,bor]
theorem Rf(g o c n:I)(i:4<=c)(l:af)(w:jc)(a:∀j,j<4->w.cell? ⟨g,o+j,jd⟩=ja (A jF (l.getD j 0).toNat)):
 js ji 240 #[ju (ja ⟨g,o,jd⟩) n c] w λe w'=>e=jq (A jp (nP l 4).toNat)/\w=w':=by
 replace a:=O a;have k:(4:T)<=(c:T):=Y;have p:c≠0:=Y;have q:(0==c)=jw:=by simp;omega
 go_enter func240,ntmps240
 go_wp2_with fail
 go_loopw [2,8] (λm t wr=>∃j:I,t=A jf j/\j<=4/\m=A jp (nP l j).toNat/\wr=w) (λ_ t _=>(4-jy t).toNat)
 case atStart=>exact⟨0,N,by omega,rfl,rfl⟩
 obtain⟨j,rfl,m,rfl,rfl⟩:=hrel
 by_cases d:j<4
 ·have f:=a j d
  have b:nP l (j+1)=nP l j<<<8|||(l.getD j 0).setWidth 32:=N;generalize l.getD j 0=y at f b;have h:=O b;clear b
  go_wp2
  refine⟨⟨j+1,by go_num,by omega,?_,trivial⟩,by simp[jy];omega⟩;rw[Qb,h]
 go_wp2
 go_ret;have:j=4:=Y;subst this;exact⟨N,N⟩
theorem b8.frozen(h:b8 w g t c)(i:I):w.frozen? ⟨g,i,jd⟩=jw:=by
 simp[xI,show w.heap[g]?=_ from h]
theorem b8.lt(h:b8 w g t c):g<w.heap.size:=(jO.1 h).1
theorem b8.set{v:af}(h:b8 W g t v)(i:I)(x:jm 8):
 b8 (W.setCell ⟨g,i,jd⟩ (A jF x.toNat)) g t (v.set i x):=by
 have a:=h.lt;have b:W.heap[g]=_:=(jO.1 h).2;show(W.heap.modify g _)[g]?=_;rw[xf];simp[a,b,List.map_set]
def iJ(a:af)(o n:I)(x:jm 64):I->af
 |0=>a
 |j+1=>(iJ a o n x j).set (o+(n-1-j)) ((x>>>(8*j)).setWidth 8)
theorem y7(cur o n x j):(iJ cur o n x j).length=cur.length:=by induction j with
 |zero=>rfl
 |succ j a=>simp[iJ,a]
theorem Q9(x:jm 64)(j:I):(x.toNat:T)/2^(8*j)%256=(((x>>>(8*j)).setWidth 8).toNat:T):=by
 rw[qH,w9,xa];simp
theorem Bf(g o c n:I)(t:jr)(k:n<=8)(b:af)(x:jm 64)(w:jc)(h:b8 w g t b)(l:o+n<=b.length)(m:n<=c):
 js ji 207 #[ju (ja ⟨g,o,jd⟩) n c,A jk x.toNat] w λe w'=>e=jq (jN #[])/\aZ g w w'/\b8 w' g t (iJ b o n x n):=by
 replace h:=O h
 go_enter func207,ntmps207
 go_wp2_with fail
 go_loopw [7] (λa wr=>∃j:I,a=A jf j/\j<=n/\jl (b8 wr g t (iJ b o n x j))/\jl (aZ g w wr)) (λa _=>(n-jy a).toNat)
 case atStart=>exact⟨0,N,by omega,h,aZ.refl _ _⟩
 obtain⟨j,rfl,p,a,d⟩:=hrel
 by_cases q:j<n
 ·have f:=a.cell (i:=o+(n-1-j)) (by rw[y7];omega)
  have r:=a.frozen (o+(n-1-j))
  go_wp2
  go_roundw
  case rel=>
   refine⟨j+1,by go_num,by omega,?_,d.trans (aZ.setCell _ _ _ _)⟩;rw[Q9];exact a.set _ _
  case measure=>simp[jy];omega
 have f:j=n:=Y;rw[f]at a
 go_wp2
 go_end0
 exact⟨N,d,a⟩
theorem Hu:(ji.info? 5).map (λi=>(i.zero,i.size,i.bytes))=ja (ja (A jF 0),1,1):=by kernel_rfl
def gE(n:I):I->af
 |0=>[]
 |j+1=>gE n j++[j3 8 (n/2^(56-8*j))]
theorem Bj(n j):(gE n j).length=j:=by induction j with
 |zero=>rfl
 |succ j a=>simp[gE,a]
theorem Pr(n k:I):(n:T)/2^(56-8*k)%256=((j3 8 (n/2^(56-8*k))).toNat:T):=by
 rw[qG];simp
theorem K9(n k:I):(gE n (k+1)).map v8=(gE n k).map v8++[A jF ((n:T)/2^(56-8*k)%256)]:=by
 rw[Pr,gE,xL];rfl
theorem IC(n:I)(m:n<9223372036854775808)(w:jc):
 js ji 218 #[A jf n] w λe w'=>∃v,e=jq v/\w'.ownsRow w 5 1 v 8 ((gE n 8).map v8)/\jn w w w':=by
 obtain⟨c,d,f,g,h⟩:=oo Hu
 go_enter func218,ntmps218
 go_wp2_with fail
 go_loopw [2,4] (λl t wr=>∃k:I,t=A jf k/\k<=8/\wr.ownsRow w 5 1 l k ((gE n k).map v8)/\jn w w wr) (λ_ t _=>(8-jy t).toNat)
 case atStart=>exact⟨0,N,by omega,xj _ _ _ _,jK _ _⟩
 obtain⟨k,rfl,hk,b,a⟩:=hrel
 by_cases o:k<8
 ·have i:=a.size
  replace a:=O a
  go_wp2_with (at_builtin;refine q8 _ N _ _ 50 N w.heap.size 5 c (A jF 0) 1 1 jQ d f g h N G _ _ _ N (b.alloc _) ⟨wr,0,jd⟩ 1 1 [A jF ((n:T)/2^(56-8*k)%256)] N N (cell_one_new _ _ _) (by simp[qV]) (by unfold j0;omega) Y (by simp;omega) ?_;intro p q j l _)
  go_roundw
  case rel=>
   refine⟨k+1,by go_num,by omega,?_,?_⟩
   ·rw[K9];exact j
   exact(a.alloc i _).grown l (by simp;omega) (λk e=>(b.lt k e).1)
  case measure=>simp[jy];omega
 have i:k=8:=Y;rw[i]at b;have j:=O b;replace a:=O a;clear b
 go_wp2
 go_ret;exact⟨_,N,j,a⟩
section
section
variable {P:jI} {ops:jt jz} {md:Region.Mode} {C:jc->Prop}
def rU(P:jI)(md:Region.Mode)(ops:jt jz)(C:jc->Prop)(n:I)(c:jt jv->Act->Prop):I->jt jv->Act->Prop
 |0,b,a=>c b a
 |f+1,b,a=>Region.ready md ops b≠[]/\∀i∈Region.ready md ops b,i<n/\qOp P ops C i (rU P md ops C n c f (b.setIfInBounds i jg)) a
theorem OS{n g:I}{d:jt jv->Act->Prop}{Q':jV->Act->jc->Prop}(e:∀b a w,C w->d b a->wpAny P md ops Q' g b a w):
 ∀(f:I) (b:jt jv) (a:Act) (w:jc),C w->rU P md ops C n d f b a->wpAny P md ops Q' (f+g) b a w:=by
 intro f
 induction f with
 |zero=>
  intro b a w c h;rw[kn];exact e _ _ _ c h
 |succ f j=>
  intro b a w c h;rw[Nat.add_right_comm f 1 g];refine⟨λk=>ol k h.1,λi l=>?_⟩;exact wpOp_of_qOp c (λm w' o p=>j _ m w' o p) (h.2 i l).2
theorem Ra{n i:I}{p:jz}{v:jh}{u:jt jv->Act->Prop}(w:ops[i]?=ja p)(y:∀(j:I) (o:jz) cs b,ops[j]?=ja o->o.op≠.select cs b)
 (z:Region.sinkB md ops n=jg) (B:Region.chainB md ops n=jg) (D:n<ops.size) (E:i<n) (R:∀c a,u c a->∀j∈Region.ready md ops c,n<=j):
 ∀(f:I) (c:jt jv) (a:Act),HeadInv md ops n c->
  (∀j l,ops[j]?=ja l->j≠i->c.getD j jg=jw->(∀e∈l.after,Region.binds md e=jg->e.on≠i)->p.apart ops l=jg)->
  i∈Region.ready md ops c->YieldsIn P ops C p v a->
  rU P md ops C n u f (c.setIfInBounds i jg) (a.put p.dst v)->rU P md ops C n u (f+1) c a:=by
 intro f
 induction f with
 |zero=>
  intro c a r _ g s H;have t:=(mem_ready.1 g).1;have o:∀j∈Region.ready md ops c,j<n:=λj d=>by
   rcases qu j n with h|h
   ·exact h
   exact ol d (tail_waits z B D r _ i N E t j h)
  refine⟨λh=>(by rw[h]at g;cases g),λj d=>⟨o j d,?_⟩⟩
  rcases Decidable.em (j=i)with rfl|m
  ·exact s.qOp w H
  have F:=R _ _ H j (ready_mono d m);have K:=o j d;omega
 |succ f S=>
  intro c a r M g s H;have t:=(mem_ready.1 g).1;have o:∀j∈Region.ready md ops c,j<n:=λj d=>by
   rcases qu j n with h|h
   ·exact h
   exact ol d (tail_waits z B D r _ i N E t j h)
  refine⟨λh=>(by rw[h]at g;cases g),λj d=>⟨o j d,?_⟩⟩
  rcases Decidable.em (j=i)with rfl|m
  ·exact s.qOp w H
  have F:=(H.2 j (ready_mono d m)).2;obtain⟨Q,l,x,U⟩:=mem_ready.1 d;have V:∀e∈l.after,Region.binds md e=jg->e.on≠i:=λe he W X=>by
   have q:=U e he W;rw[X,getD_both t]at q
   cases q
  have K:=qOp_put x (M j l x m Q V) (λcs b=>y i p cs b w) (λcs b=>y j l cs b x) s F;refine qOp_mono (λb q=>S (c.setIfInBounds j jg) b (r.set d (o j d)) (λk ok hk aa ad Sx=>M k ok hk aa ?_ Sx) (ready_mono g (Ne.symm m)) q.1 ?_) K
  ·rcases Decidable.em (j=k)with rfl|b
   ·exact Q
   rwa [getD_set_ne jg b]at ad
  rw[xy _ _ m];exact q.2
theorem Oq{n g:I}{e:Act->Prop}(s:Region.noSelect ops=jg)(t:Region.sinkB md ops n=jg)(u:Region.chainB md ops n=jg)(w:n<ops.size):
 ∀(l:je jz) (k:I) (b:jt jv) (a:Act),(∀j,j<l.length->l[j]?=ops[k+j]?)->k+l.length=n->HeadInv md ops n b->
 Region.lexHead md ops g l.length k b=jg->wpQuiet P ops C e l a->
 rU P md ops C n (λf i=>Region.seqB md ops g n f=jg/\e i) l.length b a:=by
 intro l
 induction l with
 |nil=>
  intro k b a _ hk _ c h;obtain rfl:k=n:=ah hk;exact⟨by simpa [Region.lexHead]using c,h⟩
 |cons o l x=>
  intro k b a m hk p c h;have d:ops[k]?=ja o:=by simpa using(m 0 ax).symm
  simp only[lw,Region.lexHead,j1]at c;obtain⟨⟨y,z⟩,B⟩:=c;have q:k<n:=by simp only[lw]at hk;omega
  have r:k∈Region.ready md ops b:=ah y;have D:qOp P ops C k (wpQuiet P ops C e l) a:=by unfold qOp;simp only[d];exact h
  obtain⟨v,E,F⟩:=yieldsIn_of_qOp d D;refine Ra d (Region.noSelect_spec s) t u w q (λf i H=>seqB_ready H.1) l.length b a p (Region.free_spec d z) r E ?_;exact x (k+1) _ _ (λj f=>by have:=m (j+1) (by simp;omega);simpa [qW,Nat.add_comm 1 j]using this) (by simp only[lw]at hk;omega) (p.set r q) B F
theorem Q5{o:I}{b:jV->Act->jc->Prop}{a:Act}{w:jc}{l:je jz}(n:I)(p:P.follows .mixedOrders=jg)(e:Region.lexTailB .any l.toArray n=jg)
 (h:wpQuiet P l.toArray (λw'=>∃m,w'=w.drewN m) (λd=>∀w',(∃m,w'=w.drewN m)->ms P l.toArray b (l.drop n) d w') (l.take n) a):(Code.region o l.toArray jg).wp P b a w:=by
 simp only[Region.lexTailB,j1,decide_eq_true_eq]at e;obtain⟨⟨⟨⟨q,f⟩,r⟩,s⟩,u⟩:=e;have z:n<l.length:=ah f;have c:(l.take n).length=n:=by simp;omega
 have i:(l.drop n).length=l.toArray.size-n:=by simp
 have v:HeadInv .any l.toArray n (pa l.toArray.size jw):=
  ⟨by simp,λj y _ k=>(by rw[getD_replicate_false]at k;cases k),λt _ x=>getD_in (ah x) (getD_replicate_false _ _)⟩
 have H:=Oq (md:=.any) (g:=l.toArray.size-n) q r s f (l.take n) 0 _ a (λj k=>by
  have t:j<n:=by rw[c]at k;exact k
  simp[t]) (ah c) v (by rw[c];exact u) h
 refine wp_region_any p ?_;have t:∃m,({w with drawn:=w.drawn+1}:jc)=w.drewN m:=⟨1,N⟩;have:=OS (Q':=b) (g:=l.toArray.size-n) (λx d w' y k=>by
  have:=wpAny_of_seq (md:=.any) (Q':=b) (l.drop n) n x d w' (λj=>by simp[List.getElem?_drop]) (by rw[i];exact k.1) (k.2 w' y)
  rwa [i]at this) _ _ _ _ t H
 rw[c,show n+(l.toArray.size-n)=l.toArray.size by omega]at this;exact this
end
end
def oq(b:af):I->je (jm 32)
 |0=>nn 64 0
 |t+1=>(oq b t).set t (nP (b.drop (4*t)) 4)
theorem As(b t):(oq b t).length=64:=by induction t with
 |zero=>simp[oq]
 |succ t a=>simp[oq,a]
def gS(x:jm 32)(k:T):jm 32:=x.rotateRight (-k).toNat
def zP(W:je (jm 32))(t:I):jm 32:=
 W.getD (t-16) 0+(gS (W.getD (t-15) 0) (-7)^^^gS (W.getD (t-15) 0) (-18)^^^(W.getD (t-15) 0)>>>3)+W.getD (t-7) 0+
  (gS (W.getD (t-2) 0) (-17)^^^gS (W.getD (t-2) 0) (-19)^^^(W.getD (t-2) 0)>>>10)
theorem Of(W:je (jm 32))(t:I):zP W t=W.getD (t-16) 0+(gS (W.getD (t-15) 0) (-7)^^^gS (W.getD (t-15) 0) (-18)^^^(W.getD (t-15) 0)>>>3)+W.getD (t-7) 0+
 (gS (W.getD (t-2) 0) (-17)^^^gS (W.getD (t-2) 0) (-19)^^^(W.getD (t-2) 0)>>>10):=N
theorem GE(x:jm 32)(k:T)(hk:k= -7\/k= -18\/k= -17\/k= -19)(w:jc):
 js ji 241 #[A jp x.toNat,A jf k] w λe w'=>e=jq (A jp (gS x k).toNat)/\w'=w:=by
 rcases hk with rfl|rfl|rfl|rfl
 ·exact(Ou x w).mono λe w' h=>⟨h.1,h.2.symm⟩
 ·exact(MD x w).mono λe w' h=>⟨h.1,h.2.symm⟩
 ·exact(NJ x w).mono λe w' h=>⟨h.1,h.2.symm⟩
 exact(On x w).mono λe w' h=>⟨h.1,h.2.symm⟩
theorem Ec(a b c d:jm 32):((a.toNat:T)+(b.toNat:T)+(c.toNat:T)+(d.toNat:T))%4294967296=((a+b+c+d).toNat:T):=by
 simp only[xF];omega
def uR(x:jm 32):jm 32:=x.rotateRight 6^^^x.rotateRight 11^^^x.rotateRight 25
def yr(x:jm 32):jm 32:=x.rotateRight 2^^^x.rotateRight 13^^^x.rotateRight 22
theorem NF(x:jm 32)(w:jc):
 js ji 242 #[A jp x.toNat,A jf 6,A jf 11,A jf 25] w λe w'=>e=jq (A jp (uR x).toNat)/\w'=w:=
 (OR x w).mono λe w' h=>⟨h.1,h.2.symm⟩
theorem Nm(x:jm 32)(w:jc):
 js ji 242 #[A jp x.toNat,A jf 2,A jf 13,A jf 22] w λe w'=>e=jq (A jp (yr x).toNat)/\w'=w:=
 (Pn x w).mono λe w' h=>⟨h.1,h.2.symm⟩
def eZ(b:af):I->je (jm 32)
 |0=>oq b 16
 |t+1=>(eZ b t).set (16+t) (zP (eZ b t) (16+t))
theorem o7(b t):(eZ b t).length=64:=by induction t with
 |zero=>exact As b 16
 |succ t a=>simp[eZ,a]
theorem uV(t e:jr)(a:P.underlying t=ja (.slice e))(b:∀w,(sizeOf e).run P w=.ok 1 w)(g o n c l:I)(d:l<=n)(f:l<c)(W:jc):
 (Instr.sliceAt t (ju (ja ⟨g,o,jd⟩) n c) (ja (A jf (l:T))) jd jd).run P W=.ok (ju (ja ⟨g,o+l,jd⟩) (n-l) (c-l)) W:=by
 have he:P.elem t=e:=by simp[Program.elem,a]
 rw[xw W t _ _ _ _ (by rw[he];exact a),run_slice_l W t _ n c (by rw[he];exact a) .i64 _ Y Y,he];simp[b,Result.andThen,sliced,Addr.add];rw[jS Y]
 split<;>simp[*]
def kN:je (jm 32):=[
 1116352408,1899447441,3049323471,3921009573,961987163,1508970993,2453635748,2870763221,
 3624381080,310598401,607225278,1426881987,1925078388,2162078206,2614888103,3248222580,
 3835390401,4022224774,264347078,604807628,770255983,1249150122,1555081692,1996064986,
 2554220882,2821834349,2952996808,3210313671,3336571891,3584528711,113926993,338241895,
 666307205,773529912,1294757372,1396182291,1695183700,1986661051,2177026350,2456956037,
 2730485921,2820302411,3259730800,3345764771,3516065817,3600352804,4094571909,275423344,
 430227734,506948616,659060556,883997877,958139571,1322822218,1537002063,1747873779,
 1955562222,2024104815,2227730452,2361852424,2428436474,2756734187,3204031479,3329325298]
def en(w:jc):Prop:=Lib.TabIs ji w "chartroom/digest.numbers" .u32 (kN.map λx=>(x.toNat:T))
theorem Ow:ji.globalNamed "chartroom/digest.numbers" =ja 3:=by kernel_rfl
theorem en.cell(h:en w)(t:I)(a:t<64):w.cell? ⟨3,t,jd⟩=ja (A jp (kN.getD t 0).toNat):=by
 have:=Lib.TabIs.cell h Ow t (by simpa [kN]using a);rw[this];have b:t<kN.length:=a;simp[b,jW]
def pR(v:je (jm 32))(k x:jm 32):jm 32:=
 v.getD 7 0+uR (v.getD 4 0)+(v.getD 6 0^^^(v.getD 4 0&&&(v.getD 5 0^^^v.getD 6 0)))+k+x
def qR(v:je (jm 32)):jm 32:=
 yr (v.getD 0 0)+((v.getD 0 0&&&v.getD 1 0)|||(v.getD 2 0&&&(v.getD 0 0|||v.getD 1 0)))
theorem PC(v:je (jm 32))(k x:jm 32):pR v k x=v.getD 7 0+uR (v.getD 4 0)+(v.getD 6 0^^^(v.getD 4 0&&&(v.getD 5 0^^^v.getD 6 0)))+k+x:=N
theorem OD(v:je (jm 32)):qR v=yr (v.getD 0 0)+((v.getD 0 0&&&v.getD 1 0)|||(v.getD 2 0&&&(v.getD 0 0|||v.getD 1 0))):=N
def shR(v:je (jm 32)):je (jm 32):=splice v 1 (v.take 7)
def pH(v:je (jm 32))(k x:jm 32):je (jm 32):=
 ((shR v).set 4 ((shR v).getD 4 0+pR v k x)).set 0 (pR v k x+qR v)
theorem Gr(v)(h:v.length=8):(shR v).length=8:=by simp[shR,splice,h]
theorem Nx(v k x)(h:v.length=8):(pH v k x).length=8:=by simp[pH,Gr v h]
def iD(s W:je (jm 32)):I->je (jm 32)
 |0=>s
 |t+1=>pH (iD s W t) (kN.getD t 0) (W.getD t 0)
theorem EP(s W t)(h:s.length=8):(iD s W t).length=8:=by induction t with
 |zero=>exact h
 |succ t a=>exact Nx _ _ _ a
def il(s v:je (jm 32)):I->je (jm 32)
 |0=>s
 |i+1=>(il s v i).set i ((il s v i).getD i 0+v.getD i 0)
theorem Ch(s v i):(il s v i).length=s.length:=by induction i with
 |zero=>rfl
 |succ i a=>simp[il,a]
def nU(s:je (jm 32))(b:af):je (jm 32):=il s (iD s (eZ b 48) 64) 8
theorem IK(s b)(h:s.length=8):(nU s b).length=8:=by rw[nU,Ch,h]
theorem Cp(g o j:I):(⟨g,o,jd⟩:jR).add j=⟨g,o+j,jd⟩:=by unfold Addr.add;split<;>simp_all
theorem OC(l:je (jm 32)):∀a∈l.map bR,a.oneCell'=jg:=by
 intro a b;obtain⟨x,_,rfl⟩:=qa.1 b
 rfl
theorem PO(g p o n c:I)(s:je (jm 32))(b:af)(hs:s.length=8)(hb:b.length=64)(hn:64<=n)(hc:n<=c)(w:jc)
 (a:aQ w g 281 s) (d:∀j,j<64->w.cell? ⟨p,o+j,jd⟩=ja (A jF (b.getD j 0).toNat)) (f:en w):
 js ji 206 #[jG (ja ⟨g,0,jd⟩),ju (ja ⟨p,o,jd⟩) n c] w λe w'=>
  e=jq (jN #[])/\aQ w' g 281 (nU s b)/\(∀k,k<w.heap.size->k≠g->w'.heap[k]?=w.heap[k]?)/\jn 0 w w':=by
 have br:p<w.heap.size:=kM (d 0 Y);have bs:g<w.heap.size:=a.lt;have bu:3<w.heap.size:=kM (f.cell 0 G);have HT:jl (∀t,t<64->w.cell? ⟨3,t,jd⟩=ja (A jp (kN.getD t 0).toNat)):=O λt ht=>f.cell t ht
 have HG:=O a;have HC:=O d;clear a d f
 go_enter func206,ntmps206
 go_upto_region 1 with fail
 have a:aQ (w.alloc (jj #[jb .u32 0,jb .u32 0,jb .u32 0,jb .u32 0,jb .u32 0,jb .u32 0,jb .u32 0,jb .u32 0,jb .u32 0,jb .u32 0,jb .u32 0,jb .u32 0,jb .u32 0,jb .u32 0,jb .u32 0,jb .u32 0,jb .u32 0,jb .u32 0,jb .u32 0,jb .u32 0,jb .u32 0,jb .u32 0,jb .u32 0,jb .u32 0,jb .u32 0,jb .u32 0,jb .u32 0,jb .u32 0,jb .u32 0,jb .u32 0,jb .u32 0,jb .u32 0,jb .u32 0,jb .u32 0,jb .u32 0,jb .u32 0,jb .u32 0,jb .u32 0,jb .u32 0,jb .u32 0,jb .u32 0,jb .u32 0,jb .u32 0,jb .u32 0,jb .u32 0,jb .u32 0,jb .u32 0,jb .u32 0,jb .u32 0,jb .u32 0,jb .u32 0,jb .u32 0,jb .u32 0,jb .u32 0,jb .u32 0,jb .u32 0,jb .u32 0,jb .u32 0,jb .u32 0,jb .u32 0,jb .u32 0,jb .u32 0,jb .u32 0,jb .u32 0] 311)) w.heap.size 311 (oq b 0):=by
  have:=jL w (jj #[jb .u32 0,jb .u32 0,jb .u32 0,jb .u32 0,jb .u32 0,jb .u32 0,jb .u32 0,jb .u32 0,jb .u32 0,jb .u32 0,jb .u32 0,jb .u32 0,jb .u32 0,jb .u32 0,jb .u32 0,jb .u32 0,jb .u32 0,jb .u32 0,jb .u32 0,jb .u32 0,jb .u32 0,jb .u32 0,jb .u32 0,jb .u32 0,jb .u32 0,jb .u32 0,jb .u32 0,jb .u32 0,jb .u32 0,jb .u32 0,jb .u32 0,jb .u32 0,jb .u32 0,jb .u32 0,jb .u32 0,jb .u32 0,jb .u32 0,jb .u32 0,jb .u32 0,jb .u32 0,jb .u32 0,jb .u32 0,jb .u32 0,jb .u32 0,jb .u32 0,jb .u32 0,jb .u32 0,jb .u32 0,jb .u32 0,jb .u32 0,jb .u32 0,jb .u32 0,jb .u32 0,jb .u32 0,jb .u32 0,jb .u32 0,jb .u32 0,jb .u32 0,jb .u32 0,jb .u32 0,jb .u32 0,jb .u32 0,jb .u32 0,jb .u32 0] 311);exact this
 have d:jn w w (w.alloc (jj #[jb .u32 0,jb .u32 0,jb .u32 0,jb .u32 0,jb .u32 0,jb .u32 0,jb .u32 0,jb .u32 0,jb .u32 0,jb .u32 0,jb .u32 0,jb .u32 0,jb .u32 0,jb .u32 0,jb .u32 0,jb .u32 0,jb .u32 0,jb .u32 0,jb .u32 0,jb .u32 0,jb .u32 0,jb .u32 0,jb .u32 0,jb .u32 0,jb .u32 0,jb .u32 0,jb .u32 0,jb .u32 0,jb .u32 0,jb .u32 0,jb .u32 0,jb .u32 0,jb .u32 0,jb .u32 0,jb .u32 0,jb .u32 0,jb .u32 0,jb .u32 0,jb .u32 0,jb .u32 0,jb .u32 0,jb .u32 0,jb .u32 0,jb .u32 0,jb .u32 0,jb .u32 0,jb .u32 0,jb .u32 0,jb .u32 0,jb .u32 0,jb .u32 0,jb .u32 0,jb .u32 0,jb .u32 0,jb .u32 0,jb .u32 0,jb .u32 0,jb .u32 0,jb .u32 0,jb .u32 0,jb .u32 0,jb .u32 0,jb .u32 0,jb .u32 0] 311)):=⟨N,N,N,by simp,λk hk=>jH _ _ _ hk⟩;obtain⟨S,f⟩:=J (w.alloc (jj #[jb .u32 0,jb .u32 0,jb .u32 0,jb .u32 0,jb .u32 0,jb .u32 0,jb .u32 0,jb .u32 0,jb .u32 0,jb .u32 0,jb .u32 0,jb .u32 0,jb .u32 0,jb .u32 0,jb .u32 0,jb .u32 0,jb .u32 0,jb .u32 0,jb .u32 0,jb .u32 0,jb .u32 0,jb .u32 0,jb .u32 0,jb .u32 0,jb .u32 0,jb .u32 0,jb .u32 0,jb .u32 0,jb .u32 0,jb .u32 0,jb .u32 0,jb .u32 0,jb .u32 0,jb .u32 0,jb .u32 0,jb .u32 0,jb .u32 0,jb .u32 0,jb .u32 0,jb .u32 0,jb .u32 0,jb .u32 0,jb .u32 0,jb .u32 0,jb .u32 0,jb .u32 0,jb .u32 0,jb .u32 0,jb .u32 0,jb .u32 0,jb .u32 0,jb .u32 0,jb .u32 0,jb .u32 0,jb .u32 0,jb .u32 0,jb .u32 0,jb .u32 0,jb .u32 0,jb .u32 0,jb .u32 0,jb .u32 0,jb .u32 0,jb .u32 0] 311));rw[<-f]at a d⊢;have h:S.heap.size=w.heap.size+1:=by rw[f];simp
 have bv:=O h;have HA:=O a;have HB:=O d;clear a d f h
 go_wp2_with fail
 go_loopw [14] (λa wr=>∃t:I,a=A jf t/\t<=16/\jl (aQ wr w.heap.size 311 (oq b t))/\jl (aZ w.heap.size S wr)) (λa _=>(16-jy a).toNat)
 case atStart=>exact⟨0,N,by omega,HA,aZ.refl _ _⟩
 obtain⟨t,rfl,ht,d,al⟩:=hrel
 by_cases bI:t<16
 ·have f:∀j,j<4->wr.cell? ⟨p,(o+4*t)+j,jd⟩=ja (A jF ((b.drop (4*t)).getD j 0).toNat):=λj D=>by
   have h1:=HC (4*t+j) Y;have h2:(b.drop (4*t)).getD j 0=b.getD (4*t+j) 0:=by simp[jW]
   rw[h2,qW];exact fG h1 ((al.block _ (by show p≠_;omega)).trans (HB.block _ br))
  have h:=O f;have bd:=d.frozen t;have C:=d.cell (i:=t) (by rw[As];omega);have l:∀W,(Instr.sliceAt 50 (ju (ja ⟨p,o,jd⟩) n c) (ja (A jf (4*(t:T)))) jd jd).run ji W=.ok (ju (ja ⟨p,o+4*t,jd⟩) (n-4*t) (c-4*t)) W:=λW=>by
   have:=uV (P:=ji) 50 5 jQ gU p o n c (4*t) Y Y W
   simpa using this
  clear f
  go_wp2_with fail
  refine(Rf p (o+4*t) (c-4*t) (n-4*t) Y (b.drop (4*t)) _ h.out).mono ?_;rintro e w' ⟨rfl,rfl⟩;obtain⟨x,f⟩:=J (nP (b.drop (4*t)) 4);rw[<-f];have m:=O f;clear f
  go_wp2
  go_roundw
  case rel=>
   refine⟨t+1,by go_num,by omega,?_,al.trans (aZ.setCell _ _ _ _)⟩;show aQ _ _ _ (qU _ _ _);rw[<-m];exact d.set _ _
  case measure=>simp[jy];omega
 have f:t=16:=Y;have bw:jl (aQ wr w.heap.size 311 (eZ b 0)):=by
  have h:=d;rw[f]at h;exact h
 clear d f;have bK:=ap ((t:T)<16)
 go_wp2_with fail
 go_loopw [6] (λa wr=>∃q:I,a=A jf q/\16<=q/\q<=64/\jl (aQ wr w.heap.size 311 (eZ b (q-16)))/\jl (aZ w.heap.size S wr)) (λa _=>(64-jy a).toNat)
 case atStart=>exact⟨16,N,by omega,by omega,bw,al⟩
 obtain⟨q,rfl,Zc,bM,f,m⟩:=hrel
 by_cases bN:q<64
 ·have bA:=ao ((q:T)<64)
  have v:=f.cell (i:=q-15) (by rw[o7];omega);have z:=f.cell (i:=q-2) (by rw[o7];omega);have d:=Of (eZ b (q-16)) q;generalize(eZ b (q-16)).getD (q-15) 0=x at v d;generalize(eZ b (q-16)).getD (q-2) 0=y at z d;have u:=O d;clear d
  go_upto_region 9 with fail
  go_quiet (fail)
  go_upto_region 10 with fail
  have r:jl (aQ (wr.drewN nq) w.heap.size 311 (eZ b (q-16))):=f;have B:jl (aZ w.heap.size S (wr.drewN nq)):=m.trans ⟨N,N,N,N,λ_ _=>rfl⟩;obtain⟨C,E⟩:=J (wr.drewN nq);rw[<-E]at r B⊢;clear E v z f m;have d:=u.out;clear u;have v:=r.cell (i:=q-16) (by rw[o7];omega);have E:=r.cell (i:=q-7) (by rw[o7];omega);have F:=r.cell (i:=q) (by rw[o7];omega);have bd:=r.frozen q;generalize(eZ b (q-16)).getD (q-16) 0=z at v d;generalize(eZ b (q-16)).getD (q-7) 0=H at E d;generalize(eZ b (q-16)).getD q 0=U at F;have u:=O d;clear d;refine Q5 29 ag ag ?_;simp only[List.take_succ_cons,List.take_zero,List.drop_succ_cons,List.drop_zero]
  repeat (go_big_quiet_step (exact Calls.quiet_of_same (GE _ _ G _)))
  refine wpQuiet_nil ?_;rintro _ ⟨d,rfl⟩
  go_wp2
  go_roundw
  case rel=>
   refine⟨q+1,by go_num,by omega,by omega,?_,B.trans (aZ.trans (b:=C.drewN d) ⟨rfl,rfl,rfl,rfl,λ_ _=>rfl⟩ (aZ.setCell _ _ _ _))⟩;have K:q+1-16=(q-16)+1:=Y;have M:16+(q-16)=q:=Y;rw[K];show aQ _ _ _ (qU _ (16+(q-16)) (zP _ (16+(q-16))));rw[M];rw[u];have h:=aQ.set (W:=C.drewN d) r q (z+(gS x (-7)^^^gS x (-18)^^^x>>>3)+H+(gS y (-17)^^^gS y (-19)^^^y>>>10));have Q:((x.toNat:T)/(8:T))=((x>>>3).toNat:T):=yA x 3 8 G;have R:((y.toNat:T)/(1024:T))=((y>>>10).toNat:T):=yA y 10 1024 G;rw[Q,R,gR,gR,gR,gR,Ec];exact h
  case measure=>simp[jy];omega
 have d:q=64:=Y;have B:jl (aQ wr w.heap.size 311 (eZ b 48)):=by
  have h:=f;rw[d]at h;exact h
 have bA:=ap ((q:T)<64);clear f d;have d:jl (aQ wr g 281 s):=(m.block _ (by show g≠_;omega)).trans ((HB.block _ bs).trans HG);have l:s=[s.getD 0 0,s.getD 1 0,s.getD 2 0,s.getD 3 0,s.getD 4 0,s.getD 5 0,s.getD 6 0,s.getD 7 0]:=by
  match s,hs with
  |[a0,a1,a2,a3,a4,a5,a6,a7],_=>rfl
 have r:=d.cell (i:=0) Y;have u:=d.cell (i:=1) Y;have v:=d.cell (i:=2) Y;have C:=d.cell (i:=3) Y;have F:=d.cell (i:=4) Y;have H:=d.cell (i:=5) Y;have K:=d.cell (i:=6) Y;have M:=d.cell (i:=7) Y;generalize s.getD 0 0=s0 at r l;generalize s.getD 1 0=s1 at u l;generalize s.getD 2 0=s2 at v l;generalize s.getD 3 0=s3 at C l;generalize s.getD 4 0=s4 at F l;generalize s.getD 5 0=s5 at H l;generalize s.getD 6 0=s6 at K l;generalize s.getD 7 0=s7 at M l;have E:=O l;clear l
 go_upto_region 12 with fail
 obtain⟨z,h⟩:=J (#[jb jo s0.toNat,jb jo s1.toNat,jb jo s2.toNat,jb jo s3.toNat,jb jo s4.toNat,jb jo s5.toNat,jb jo s6.toNat,jb jo s7.toNat]);rw[<-h];have f:(s.map bR).toArray=z:=by rw[E,h];rfl
 have U:=O f;clear f h E r u v C F H K M;have C:wr.heap.size=w.heap.size+1:=m.size.trans bv;have K:jn w w wr:=HB.trans (m.below (jA _));have h:aQ (wr.alloc (jj z 281)) wr.heap.size 281 (iD s (eZ b 48) 0):=by
  have:=jL wr (jj z 281);show _ =ja (Obj.cells (s.map bR).toArray 281 (0,0));rw[U];exact this
 have r:aQ (wr.alloc (jj z 281)) w.heap.size 311 (eZ b 48):=(jH _ _ _ Y).trans B;have u:aQ (wr.alloc (jj z 281)) g 281 s:=(jH _ _ _ Y).trans d;have v:jn w w (wr.alloc (jj z 281)):=K.alloc Y _;obtain⟨F,M⟩:=J (wr.alloc (jj z 281));rw[<-M]at h r u v⊢;obtain⟨H,Q⟩:=J wr.heap.size;rw[<-Q]at h C⊢;have bB:w.heap.size<H:=Y;have bf:=O h;have bg:=O r;have YM:=O u;have RE:=O v;clear h r u v M Q C K U d B m;have bh:=O (o7 b 48);have d:nU s b=il s (iD s (eZ b 48) 64) 8:=N;have au:=O d;clear d;generalize eZ b 48=m at bf bg bh au
 go_wp2_with fail
 go_loopw [69] (λa K=>∃r:I,a=A jf r/\r<=64/\jl (aQ K H 281 (iD s m r))/\jl (jn H F K)) (λa _=>(64-jy a).toNat)
 case atStart=>exact⟨0,N,by omega,bf,jK _ _⟩
 obtain⟨r,rfl,hr,h,C⟩:=hrel
 by_cases Zr:r<64
 ·have bC:=ao ((r:T)<64)
  have X:jl (iD s m (r+1)=pH (iD s m r) (kN.getD r 0) (m.getD r 0)):=O N;have d:=O (EP s m r hs);generalize iD s m r=V at h X d;have Vp:wr.cell? ⟨w,r,jd⟩=ja (A jp (m.getD r 0).toNat):=fG (bg.cell (by rw[bh];exact Zr)) (C.block _ bB);have aa:wr.cell? ⟨3,r,jd⟩=ja (A jp (kN.getD r 0).toNat):=
   fG (fG (HT r Zr) (RE.block _ bu)) (C.block _ (by show 3<H;omega))
  generalize kN.getD r 0=M at aa X;generalize m.getD r 0=Q at Vp X;have Wg:=O aa;have ad:=O Vp;have B:=h.cell (i:=0) (by rw[d];decide);have c1:=h.cell (i:=1) (by rw[d];decide);have c2:=h.cell (i:=2) (by rw[d];decide);have R:=h.cell (i:=4) (by rw[d];decide);have c5:=h.cell (i:=5) (by rw[d];decide);have c6:=h.cell (i:=6) (by rw[d];decide);have c7:=h.cell (i:=7) (by rw[d];decide);have u:=PC V M Q;have f:=OD V;generalize V.getD 0 0=v0 at B u f;generalize V.getD 1 0=v1 at c1 u f;generalize V.getD 2 0=v2 at c2 u f;generalize V.getD 4 0=v4 at R u f;generalize V.getD 5 0=v5 at c5 u f;generalize V.getD 6 0=v6 at c6 u f;generalize V.getD 7 0=v7 at c7 u f;have HP:=O u;have U:=O f;clear u f
  go_upto_region 15 with fail
  go_quiet (exact Calls.quiet_of_same (NF _ _))
  simp only[gR,Cz,Ec,kq];rw[<-HP];have ba:jl (aQ (wr.drewN nq) H 281 V):=h;have bb:jl (jn H F (wr.drewN nq)):=C.trans ⟨N,N,N,jA _,λ_ _=>rfl⟩;obtain⟨u,v⟩:=J (wr.drewN nq);rw[<-v]at ba bb⊢;have B:u.cell? ⟨H,0,jd⟩=ja (A jp v0.toNat):=by rw[v];exact B
  have c1:u.cell? ⟨H,1,jd⟩=ja (A jp v1.toNat):=by rw[v];exact c1
  have c2:u.cell? ⟨H,2,jd⟩=ja (A jp v2.toNat):=by rw[v];exact c2
  clear v h C R c5 c6 c7 Wg ad aa Vp
  go_upto_region 16 with fail
  go_quiet (exact Calls.quiet_of_same (Nm _ _))
  simp only[bor,Cz,kq];rw[<-U];have aa:jl (aQ (u.drewN nq) H 281 V):=ba;have bc:jl (jn H F (u.drewN nq)):=bb.trans ⟨N,N,N,jA _,λ_ _=>rfl⟩;obtain⟨ad,v⟩:=J (u.drewN nq);rw[<-v]at aa bc⊢;clear v ba bb B c1 c2
  go_upto_region 17 with fail
  have ba:ad.drew.heap[H]?=ja (jj (V.map bR).toArray 281 (0,0)):=aa.out;have bb:∀(j:I) (v:jh),((V.take 7).map bR)[j]?=ja v->ad.drew.cell? ((⟨H,0,jd⟩:jR).add j)=ja v:=by
   intro j v D;have bk:j<7:=by
    have:=(m0.1 D).1;simp at this;omega
   have Tm:j<V.length:=by rw[d];omega
   rw[Cp,kn,aQ.cell (W:=ad.drew) aa Tm];simp[bk,Tm]at D;simp[<-D,bR,Tm,jW]
  have bk:jl (jn H F ad.drew):=bc.trans ⟨N,N,N,jA _,λ_ _=>rfl⟩;have Ys:=O ba;have bl:=O bb;have D:((V.take 7).map bR).length=7:=by simp[d.out]
  have bm:=O D;have bn:1+((V.take 7).map bR).length<=(V.map bR).length:=by rw[D];simp[d.out]
  have bo:=O bn;have bq:=O (OC (V.take 7));clear ba bb D bn
  go_region_law (refine step_copy_splice N (.tmp 116) (.tmp 117) 315 315 N 161 underlying315 N (ja ⟨H,1,jd⟩) (ja ⟨H,0,jd⟩) 7 7 7 8 (by simp[Act.eval,Act.put]) (by simp[Act.eval,Act.put]) H 1 (V.map bR) 281 Ys ((V.take 7).map bR) (by rw[bm];rfl) (λ_=>⟨N,_,N,bl⟩) bo bq H F bk (jA _) ?_;intro w4 ba bb)
  have D:aQ w4 H 281 (shR V):=by
   have e:splice (V.map bR) 1 ((V.take 7).map bR)=(shR V).map bR:=by simp[splice,shR,List.map_take,List.map_drop]
   show w4.heap[_]?=_;rw[ba,e]
  have TG:=O D;have RO:=O bb;have E:=O (Gr V d);have R:=D.cell (i:=4) (by rw[E];decide);have f4:=D.frozen 4;have f0:=D.frozen 0;have B:=D.cell (i:=0) (by rw[E];decide);clear D ba bb bq bo bm bl Ys bc bk aa;have aa:pH V M Q=((shR V).set 4 ((shR V).getD 4 0+pR V M Q)).set 0 (pR V M Q+qR V):=N;have D:=O aa;clear aa;generalize shR V=SV at TG R B D;generalize aa:SV.getD 4 0=s4 at R D;generalize SV.getD 0 0=s0 at B;generalize pR V M Q=pp at D⊢;generalize qR V=qq at D⊢
  go_wp2
  go_roundw
  case rel=>
   refine⟨r+1,by go_num,by omega,?_,?_⟩
   ·rw[X,D]
    have h1:=TG.set 4 (s4+pp);have h2:=h1.set 0 (pp+qq);simp only[kq];exact h2
   exact(RO.setCell (jA _) _).setCell (jA _) _
  case measure=>simp[jy];omega
 have j:r=64:=Y;have v:jl (aQ wr H 281 (iD s m 64)):=j▸h;clear h j;have bC:=ap ((r:T)<64);have d:=O (EP s m 64 hs);generalize iD s m 64=V at v d au;have D:jl (aQ wr g 281 (il s V 0)):=(C.block _ (by show g<H;omega)).trans YM;obtain⟨j,rfl⟩:∃j:jc,j=wr:=⟨_,N⟩
 go_wp2_with fail
 go_loopw [129] (λa K=>∃i:I,a=A jf i/\i<=8/\jl (aQ K g 281 (il s V i))/\jl (aZ g j K)) (λa _=>(8-jy a).toNat)
 case atStart=>exact⟨0,N,by omega,D,aZ.refl _ _⟩
 obtain⟨i,rfl,Q,a,h⟩:=hrel
 by_cases R:i<8
 ·have K:jl (aQ wr H 281 V):=(h.block _ (by show H≠g;omega)).trans v
  have M:=a.cell (i:=i) (by rw[Ch];omega);have B:=K.cell (i:=i) (by rw[d];omega);have bd:=a.frozen i;have u:jl (il s V (i+1)=(il s V i).set i ((il s V i).getD i 0+V.getD i 0)):=O N;generalize(il s V i).getD i 0=x at M u;generalize V.getD i 0=y at B u
  go_upto_region 24 with fail
  go_region
  rw[kq x y]
  go_wp2
  go_roundw
  case rel=>
   refine⟨i+1,by go_num,by omega,?_,?_⟩
   ·rw[u,kq];exact aQ.set (W:=wr) a _ _
   exact h.trans (aZ.trans (aZ.setCell _ _ _ _) ⟨N,N,N,N,λ_ _=>rfl⟩)
  case measure=>simp[jy];omega
 have u:i=8:=Y;have x:jl (aQ wr g 281 (nU s b)):=by rw[au];exact u▸a
 clear a u
 go_wp2
 go_end0
 refine⟨N,x,λk hk a=>?_,?_⟩
 ·exact(h.block k a).trans ((C.block k Y).trans (RE.block k hk))
 exact((RE.mono (p6 _)).trans (C.mono (p6 _))).trans (h.below (p6 _))
structure aM(g B:I)(w w':jc):Prop where
 os:w'.os=w.os
 tape:w'.tape=w.tape
 output:w'.output=w.output
 size:w.heap.size<=w'.heap.size
 block:∀k,k<B->k≠g->w'.heap[k]?=w.heap[k]?
theorem aM.refl(g B:I)(w:jc):aM g B w w:=⟨N,N,N,jA _,λ_ _ _=>rfl⟩
theorem aM.trans{d:I}{b c:jc}(h:aM g B a b)(k:aM g d b c)(j:B<=d):aM g B a c:=
 ⟨k.os.trans h.os,k.tape.trans h.tape,k.output.trans h.output,oi h.size k.size,λi f e=>(k.block i Y e).trans (h.block i f e)⟩
theorem aM.below{n:I}(h:aM g B w w')(a:n<=g)(b:n<=B):jn n w w':=
 ⟨h.os,h.tape,h.output,h.size,λk hk=>h.block k Y Y⟩
theorem aM.of_below(h:jn B w w'):aM g B w w':=
 ⟨h.os,h.tape,h.output,h.size,λk hk _=>h.block k hk⟩
theorem aZ.but(h:aZ g w w')(B:I):aM g B w w':=
 ⟨h.os,h.tape,h.output,qA h.size.symm,λk _ a=>h.block k a⟩
def fS(s:je (jm 32))(l:af):I->je (jm 32)
 |0=>s
 |k+1=>nU (fS s l k) ((l.drop (64*k)).take 64)
theorem tg(s l k)(h:s.length=8):(fS s l k).length=8:=by induction k with
 |zero=>exact h
 |succ k a=>exact IK _ _ a
theorem CG(g a o n c:I)(s:je (jm 32))(b:af)(d:s.length=8)(f:b.length=64)(i:64<=n)(k:n<=c)(w:jc)
 (l:aQ w g 281 s) (m:∀j,j<64->w.cell? ⟨a,o+j,jd⟩=ja (A jF (b.getD j 0).toNat)) (j:en w):
 js ji 206 #[jG (ja ⟨g,0,jd⟩),ju (ja ⟨a,o,jd⟩) n c] w λe w'=>
  e=jq (jN #[])/\aQ w' g 281 (nU s b)/\aM g w.heap.size w w':=
 (PO g a o n c s b d f i k w l m j).mono λe w' h=>⟨h.1,h.2.1,h.2.2.2.os,h.2.2.2.tape,h.2.2.2.output,h.2.2.2.size,h.2.2.1⟩
def ff:je (jm 32):=[1779033703,3144134277,1013904242,2773480762,1359893119,2600822924,528734635,1541459225]
def fU(w:jc):Prop:=Lib.TabIs ji w "chartroom/digest.start" .u32 (ff.map λx=>(x.toNat:T))
theorem Mo:ji.globalNamed "chartroom/digest.start" =ja 1:=by kernel_rfl
theorem fU.cell(h:fU w)(t:I)(a:t<8):w.cell? ⟨1,t,jd⟩=ja (A jp (ff.getD t 0).toNat):=by
 have:=Lib.TabIs.cell h Mo t (by simpa [ff]using a);rw[this];have b:t<ff.length:=a;simp[b,jW]
def iL(n:I):I:=if 55<n%64 then 128 else 64
def mI(l:af):af:=(splice (nn 128 0) 0 (l.drop (64*(l.length/64)))).set (l.length%64) 0x80
def nK(l:af):af:=iJ (mI l) (iL l.length-8) 8 (j3 64 (l.length*8)) 8
def dU(s:je (jm 32)):I->af
 |0=>nn 32 0
 |i+1=>iJ (dU s i) (4*i) 4 ((s.getD i 0).setWidth 64) 4
theorem AT(s i):(dU s i).length=32:=by induction i with
 |zero=>simp[dU]
 |succ i a=>simp[dU,y7,a]
def dq(l:af):af:=dU (fS (fS ff l (l.length/64)) (nK l) (iL l.length/64)) 8
theorem lJ(l):(dq l).length=32:=AT _ _
theorem Cm(l:af):(mI l).length=128:=by
 unfold mI;rw[List.length_set,length_splice _ _ _ (by simp;omega)];simp
theorem Rm(l:af):(nK l).length=128:=by rw[nK,y7,Cm]
theorem zU(l:af)(k:I)(h:64*k+64<=l.length):((l.drop (64*k)).take 64).length=64:=by simp;omega
theorem EU(l:af)(k j:I)(h:j<64):((l.drop (64*k)).take 64).getD j 0=l.getD (64*k+j) 0:=by
 simp[jW,h]
def uc:jh->I
 | .slice _ n _=>n
 |_=>0
theorem sS(t e:jr)(a:P.underlying t=ja (.slice e))(b:∀w,(sizeOf e).run P w=.ok 1 w)(g o n c h:I)(d:h<=c)(f:0<c)(W:jc):
 (Instr.sliceAt t (ju (ja ⟨g,o,jd⟩) n c) jd (ja (A jf (h:T))) jd).run P W=.ok (ju (ja ⟨g,o,jd⟩) h c) W:=by
 have he:P.elem t=e:=by simp[Program.elem,a]
 rw[xw W t _ _ _ _ (by rw[he];exact a),run_slice_h W t _ n c (by rw[he];exact a) .i64 _ Y Y,he];simp[b,Result.andThen,sliced,Addr.add]
 try(rw[jS Y])
 try(split<;>simp[*])
theorem EF(t e:jr)(a:P.underlying t=ja (.slice e))(b:∀w,(sizeOf e).run P w=.ok 1 w)(g o n c l:I)(d:l<=n)(f:n<=c):
 ∃p,(0<n-l->p=ja ⟨g,o+l,jd⟩)/\∀W,(Instr.sliceAt t (ju (ja ⟨g,o,jd⟩) n c) (ja (A jf (l:T))) jd jd).run P W=.ok (ju p (n-l) (c-l)) W:=by
 have he:P.elem t=e:=by simp[Program.elem,a]
 refine⟨if c=l then ja ⟨g,o,jd⟩else ja ⟨g,o+l,jd⟩,λh=>by rw[jS Y],λW=>?_⟩;rw[xw W t _ _ _ _ (by rw[he];exact a),run_slice_l W t _ n c (by rw[he];exact a) .i64 _ Y Y,he];simp[b,Result.andThen,sliced,Addr.add]
 by_cases h:c=l
 ·simp[h]
 simp[h]
theorem H5(t e:jr)(n:I)(a:P.underlying t=ja (.array n e))(c:∀w,(sizeOf e).run P w=.ok 1 w)(g o l h:I)(d:l<=h)(f:h<=n)(i:l<n)(W:jc):
 (Instr.sliceAt t (jG (ja ⟨g,o,jd⟩)) (ja (A jf (l:T))) (ja (A jf (h:T))) jd).run P W=.ok (ju (ja ⟨g,o+l,jd⟩) (h-l) (n-l)) W:=by
 have he:P.elem t=e:=by simp[Program.elem,a]
 have b:P.arrayLen t=n:=by simp[Program.arrayLen,a]
 rw[run_sliceAt_array_lh W t _ (by rw[he,b];exact a) .i64 .i64 _ _ Y Y (by rw[b];omega)];rw[he,b];simp[c,Result.andThen,slicedAt,Addr.add];rw[jS Y]
 split<;>simp[*]
theorem PQ(g o c:I)(t:jr)(a:af)(x:jm 32)(w:jc)(h:b8 w g t a)(b:o+4<=a.length)(d:4<=c):
 js ji 207 #[ju (ja ⟨g,o,jd⟩) 4 c,A jk x.toNat] w λe w'=>e=jq (jN #[])/\aZ g w w'/\b8 w' g t (iJ a o 4 (x.setWidth 64) 4):=by
 have e:(x.toNat:T)=((x.setWidth 64).toNat:T):=by have:=x.isLt;rw[qH,jX Y]
 rw[e];exact Bf g o c 4 t G a (x.setWidth 64) w h b d
theorem Mz(g o c:I)(t:jr)(a:af)(n:I)(f:n<1000000000)(w:jc)(h:b8 w g t a)(b:o+8<=a.length)(d:8<=c):
 js ji 207 #[ju (ja ⟨g,o,jd⟩) 8 c,A jk ((n:T)*8)] w λe w'=>e=jq (jN #[])/\aZ g w w'/\b8 w' g t (iJ a o 8 (j3 64 (n*8)) 8):=by
 have e:(n:T)*8=((j3 64 (n*8)).toNat:T):=by rw[qG,jX Y];simp
 rw[e];exact Bf g o c 8 t G a (j3 64 (n*8)) w h b d
def oV:af:=nn 128 0
theorem Lh:madeCells (jb .u8 0).cells (128*1)=(oV.map v8).toArray:=by
 kernel_rfl
theorem g8(l:af):∀a∈l.map v8,a.oneCell'=jg:=by
 intro a b;obtain⟨x,_,rfl⟩:=qa.1 b
 rfl
theorem JP:(ji.info? 5).map (λi=>(i.zero,i.size,i.bytes))=ja (ja (A jF 0),1,1):=by kernel_rfl
theorem L2(w:jc):(Instr.makeSlice 50 (A jf 64) (A jf 128)).run ji w=.ok (ju (ja ⟨w,0,jd⟩) 64 128) (w.alloc (jj (oV.map v8).toArray 5)):=by
 obtain⟨a,b,c,d,e⟩:=oo JP;have h:=run_make (P:=ji) w 50 5 a (A jF 0) jQ b c .i64 .i64 64 128 G G (by rw[e];decide) G;rw[d,show((128:T).toNat*1)=128*1 from N,Lh]at h;exact h
theorem Lj(V:je (jm 32))(b:V.length=8)(k:I)(hk:k<8)(W:jc):
 (Instr.index 281 (jT (V.map bR).toArray) (A jf (k:T))).run ji W=.ok (A jp ((V.getD k 0).toNat:T)) W:=by
 have c:=underlying281;have agg46:∀w,(isAgg 161).run ji w=.ok jw w:=λw=>by go_simp
 have size46:∀w,(sizeOf 161).run ji w=.ok 1 w:=λw=>by go_simp
 have a:V[k]?=ja (V.getD k 0):=by simp[b,hk,jW]
 unfold Instr.index;simp only[xJ]at a⊢;generalize V[k]?.getD 0=x at a⊢;simp[asIntOf,xt c,part,agg46,size46,a,hk]
theorem en.below(h:en w)(a:jn B w w')(b:w.heap.size<=B):en w':=(Lib.tabBelow_of_tabIs h) _ (a.mono b)
theorem sC(v:jh)(l:af)(hl:l.length<=1000000)(w:jc)(hv:aP w v l)(k:en w)(a:fU w):
 js ji 157 #[v] w λe w'=>e=jq (jT ((dq l).map v8).toArray)/\jn w w w':=by
 obtain⟨p0,c0,rfl,Vd,x,t⟩:=hv;obtain⟨g,o,u,i⟩:∃g o,(0<l.length->p0=ja ⟨g,o,jd⟩)/\(∀j,j<l.length->g<w.heap.size/\w.cell? ⟨g,o+j,jd⟩=ja (A jF (l.getD j 0).toNat)):=by
  rcases pz l.length with b|b
  ·exact⟨0,0,λh=>by omega,λj f=>by omega⟩
  obtain⟨g,o,d,c⟩:=t b;exact⟨g,o,λ_=>d,λj f=>⟨kM (c j f),c j f⟩⟩
 have VC:=O u;have U4:=O i;have HN:=O k;have c:=a.cell 0 G;have d:=a.cell 1 G;have m:=a.cell 2 G;have n:=a.cell 3 G;have p:=a.cell 4 G;have q:=a.cell 5 G;have r:=a.cell 6 G;have s:=a.cell 7 G;have F:1<w.heap.size:=kM c;clear u i x t k a;have a:(ff.map bR).toArray= #[bR (ff.getD 0 0),bR (ff.getD 1 0),bR (ff.getD 2 0),bR (ff.getD 3 0),bR (ff.getD 4 0),bR (ff.getD 5 0),bR (ff.getD 6 0),bR (ff.getD 7 0)]:=N;have k:ff.length=8:=N;have t:dq l=dU (fS (fS ff l (l.length/64)) (nK l) (iL l.length/64)) 8:=N;have x:=O t;clear t;generalize ff=b at c d m n p q r s a k x;generalize b.getD 0 0=K at c a;generalize b.getD 1 0=M at d a;generalize b.getD 2 0=Q at m a;generalize b.getD 3 0=R at n a;generalize b.getD 4 0=S at p a;generalize b.getD 5 0=U at q a;generalize b.getD 6 0=X at r a;generalize b.getD 7 0=s7 at s a;have E:=O a;have br:=O k;clear a k
 go_enter func157,ntmps157
 go_upto_region 2 with fail
 have a:aQ ((w.alloc (jj aT 23)).alloc (jj #[jb jo K.toNat,jb jo M.toNat,jb jo Q.toNat,jb jo R.toNat,jb jo S.toNat,jb jo U.toNat,jb jo X.toNat,jb jo s7.toNat] 281)) (w.heap.size+1) 281 (fS b l 0):=by
  have:=jL (w.alloc (jj aT 23)) (jj #[jb jo K.toNat,jb jo M.toNat,jb jo Q.toNat,jb jo R.toNat,jb jo S.toNat,jb jo U.toNat,jb jo X.toNat,jb jo s7.toNat] 281);rw[km]at this;show _ =ja (Obj.cells (b.map bR).toArray 281 (0,0));rw[E];exact this
 have t:b8 ((w.alloc (jj aT 23)).alloc (jj #[jb jo K.toNat,jb jo M.toNat,jb jo Q.toNat,jb jo R.toNat,jb jo S.toNat,jb jo U.toNat,jb jo X.toNat,jb jo s7.toNat] 281)) w.heap.size 23 (dU [] 0):=by
  have:=jL w (jj aT 23);exact(jH _ _ _ ax).trans this
 have u:jn w w ((w.alloc (jj aT 23)).alloc (jj #[jb jo K.toNat,jb jo M.toNat,jb jo Q.toNat,jb jo R.toNat,jb jo S.toNat,jb jo U.toNat,jb jo X.toNat,jb jo s7.toNat] 281)):=
  ⟨rfl,rfl,rfl,by simp;omega,λk hk=>by rw[jH _ _ _ (by simp;omega),jH _ _ _ hk]⟩
 obtain⟨W2,y⟩:=J ((w.alloc (jj aT 23)).alloc (jj #[jb jo K.toNat,jb jo M.toNat,jb jo Q.toNat,jb jo R.toNat,jb jo S.toNat,jb jo U.toNat,jb jo X.toNat,jb jo s7.toNat] 281));have z:W2.heap.size=w.heap.size+2:=by rw[y];simp
 rw[<-y]at a t u⊢;obtain⟨D,C⟩:=J w.heap.size;have HA:=O a;have HD:=O t;have B:=O u;rw[<-C]at HA HD B z U4⊢;have bc:=O z;have bd:=O C;clear a t u y z c d m n p q r s E F C
 go_wp2_with fail
 go_loopw [5] (λv m=>∃(k n c:I) (p:jC jR),v=ju p n c/\n<=c/\jl (64*k<=l.length/\n=l.length-64*k/\(0<n->p=ja ⟨g,o+64*k,jd⟩))/\jl (aQ m (D+1) 281 (fS b l k))/\jl (aM (D+1) (D+2) W2 m)) (λv _=>uc v)
 case atStart=>exact⟨0,l.length,c0,p0,N,Vd,⟨by omega,by omega,VC⟩,HA,aM.refl _ _ _⟩
 obtain⟨k,n,c,p,rfl,bN,d,y,a⟩:=hrel
 by_cases C:64<=n
 ·have hd:=ao (64<=(n:T))
  go_upto_region 6 with fail
  obtain⟨q1,q2,V⟩:=d.out;obtain rfl:p=ja ⟨g,o+64*k,jd⟩:=V Y;have aa:=zU l k Y;have ad:∀j,j<64->wr.cell? ⟨g,(o+64*k)+j,jd⟩=ja (A jF (((l.drop (64*k)).take 64).getD j 0).toNat):=λj f=>by
   obtain⟨r1,r2⟩:=U4 (64*k+j) Y;rw[EU l k j f,qW];exact fG r2 ((a.block _ (by show g<_;omega) (by show g≠_;omega)).trans (B.block _ (by show g<_;omega)))
  have S9:=O ad;have bf:=O aa;have al:en wr:=HN.below (B.trans (a.below Y Y)) (aA bd);have bg:=O al;have bh:=O (tg b l k br);obtain⟨p',au,t⟩:=EF (P:=ji) 50 5 jQ gU g (o+64*k) n c 64 C bN;have bk:=O au;have bO:∀W,(Instr.sliceAt 50 (ju (ja ⟨g,o+64*k,jd⟩) n c) jd (ja (A jf 64)) jd).run ji W=.ok (ju (ja ⟨g,o+64*k,jd⟩) 64 c) W:=
   sS (P:=ji) 50 5 jQ gU g (o+64*k) n c 64 Y Y
  replace t:∀W,(Instr.sliceAt 50 (ju (ja ⟨g,o+64*k,jd⟩) n c) (ja (A jf 64)) jd jd).run ji W=.ok (ju p' (n-64) (c-64)) W:=t;clear ad aa al au V q1 q2
  go_wp2_with fail
  refine(CG (D+1) g (o+64*k) 64 c _ _ bh.out bf (jA _) Y _ y.out S9 bg).mono ?_;rintro e w' ⟨rfl,u,a1⟩;have a2:=O u;have bl:=O (a.trans a1 (by have:=a.size;have:=bc.out;omega));clear u a1
  go_wp2
  go_roundw
  case rel=>
   have q:=d.out;refine⟨k+1,n-64,c-64,p',N,by omega,⟨by omega,by omega,λh=>?_⟩,a2,bl⟩;rw[bk h];congr 2
  case measure=>simp[uc];omega
 have r:k=l.length/64/\n=l.length%64:=aA d;have b0:n<64:=Y;have hd:=ap (64<=(n:T));have E:0<n->p=ja ⟨g,o+64*k,jd⟩:=d.2.2;have H:(l.drop (64*k)).length=n:=by have:=d.out;simp;omega
 have a3:mI l=(splice (nn 128 0) 0 (l.drop (64*k))).set n 0x80:=by rw[mI,r.1,r.2]
 have a4:dq l=dU (fS (fS b l k) (nK l) (iL l.length/64)) 8:=by rw[x,r.1]
 have ba:iL l.length=if 55<n then 128 else 64:=by rw[iL,r.2]
 have bs:=O a3;have Sv:=O a4;have z:=O ba;have bu:=O E;have F:=O H;have s:=y;have a5:=O (tg b l k br);clear r E H a3 a4 ba d y x C;generalize fS b l k=y at s Sv a5;have C:=L2;obtain⟨x,r⟩:=J (oV.map v8);rw[<-r]at C;have d:=O r;clear r;have ba:jl (D+2<=wr.heap.size):=O (by have:=a.size;have:=bc.out;omega)
 go_upto_region 8 with fail
 clear C;have r:b8 (wr.alloc (jj x.toArray 5)) wr.heap.size 5 (nn 128 0):=by
  have:=jL wr (jj x.toArray 5);show _ =ja (Obj.cells (oV.map v8).toArray 5 (0,0));rw[<-d];exact this
 have bb:aQ (wr.alloc (jj x.toArray 5)) (D+1) 281 y:=(jH _ _ _ s.lt).trans s;have C:aM (D+1) (D+2) W2 (wr.alloc (jj x.toArray 5)):=a.trans (aM.of_below (g:=D+1) ((jK wr.heap.size wr).alloc (jA _) _)) ba;have H:(wr.alloc (jj x.toArray 5)).heap.size=wr.heap.size+1:=by simp
 obtain⟨W8,bq⟩:=J (wr.alloc (jj x.toArray 5));rw[<-bq]at r bb C H⊢;obtain⟨E,hE⟩:=J wr.heap.size;rw[<-hE]at r H ba⊢;have bv:D+2<=E:=ba.out;have Tn:=O bb;have SX:=O C;have bw:=O H;have bA:∀(j:I) (a3:jh),((l.drop (64*k)).map v8)[j]?=ja a3->W8.cell? ((⟨g,o+64*k,jd⟩:jR).add j)=ja a3:=by
  intro j a3 f;have WQ:j<(l.drop (64*k)).length:=by
   have:=(m0.1 f).1
   simpa using this
  have Tm:64*k+j<l.length:=by simp at WQ;omega
  obtain⟨r1,r2⟩:=U4 (64*k+j) Tm;rw[Cp,qW,fG r2 ((C.block _ (by show g<_;omega) (by show g≠_;omega)).trans (B.block _ (by show g<_;omega)))];simp[Tm]at f;simp[<-f,v8,jW,Tm]
 have bm:=O bA;have bB:=O (show W8.heap[E]?=ja (jj x.toArray 5 (0,0)) by rw[d];exact r);have bn:=O (g8 (l.drop (64*k)));have bC:0+((l.drop (64*k)).map v8).length<=x.length:=by
  have h1:=F.out;rw[d,kw,h1,kw];simp[oV];omega
 have bo:=O bC;have i:((l.drop (64*k)).map v8).length=n:=by rw[kw];exact F
 have a4:=O i;clear bb C H bA bC i r bq hE a s;obtain⟨RB,a⟩:=J ((l.drop (64*k)).map v8);rw[<-a]at bm bn bo a4;have bA:=O a;clear a
 go_upto_region 9 with(refine wpList_copy_splice N (.tmp 22) (.tmp 23) 50 50 N 5 jQ N (ja ⟨E,0,jd⟩) p 64 128 n c aj aj E 0 x 5 bB RB (by rw[a4];exact(Nat.min_eq_left Y).symm) (λh=>⟨N,_,bu.out (by rw[<-a4];exact h),bm⟩) bo bn E W8 (jK _ _) (jA _) ?_;intro C s H)
 have a:b8 C E 5 (splice (nn 128 0) 0 (l.drop (64*k))):=by
  show C.heap[E]?=_;rw[s,d,bA];simp[splice,oV,xL,List.map_drop]
 have H9:=O a;have r:=O H;have bb:(splice (nn 128 (0:jm 8)) 0 (l.drop (64*k))).length=128:=by rw[length_splice _ _ _ (by rw[F];simp;omega)];simp
 have c9:=a.cell (i:=n) (by rw[bb];omega);have f9:=a.frozen n;clear a s H bb
 go_upto_if 31 with(fail)
 have a:b8 (C.setCell ⟨E,n,jd⟩ (A jF 128)) E 5 (mI l):=by rw[bs];exact H9.set n 0x80
 have s:aQ (C.setCell ⟨E,n,jd⟩ (A jF 128)) (D+1) 281 y:=(ow _ _ _ _ (by show D+1≠E;omega)).trans ((r.block _ Y).trans Tn);have H:aM (D+1) (D+2) W2 (C.setCell ⟨E,n,jd⟩ (A jF 128)):=SX.trans (aM.of_below (g:=D+1) (r.setCell (jA E) _)) bv;have bb:E<(C.setCell ⟨E,n,jd⟩ (A jF 128)).heap.size:=by have:=r.size;have:=bw.out;simp;omega
 obtain⟨bT,bC⟩:=J (C.setCell ⟨E,n,jd⟩ (A jF 128));rw[<-bC]at a s H bb⊢;have bq:=O a;have bI:=O s;have bK:=O H;have bM:=O bb;clear a s H bb bC c9 f9 H9 r a4 bo bn bB bm bA
 go_cut [6] (λv m=>v=ju (ja ⟨E,0,jd⟩) (iL l.length) 128/\bT=m)
 case first=>
  by_cases r:55<n
  ·have a:=ao (55<(n:T))
   rw[a];have s:∀W,(Instr.sliceAt 50 (ju (ja ⟨E,0,jd⟩) 64 128) jd (ja (A jf 128)) jd).run ji W=.ok (ju (ja ⟨E,0,jd⟩) 128 128) W:=
    sS (P:=ji) 50 5 jQ gU E 0 64 128 128 Y Y
   go_wp2_with fail
   go_meet
   exact⟨by rw[z,jU r],N⟩
  have a:=ap (55<(n:T));rw[a]
  go_wp2_with fail
  go_meet
  exact⟨by rw[z,jS r],N⟩
 obtain⟨rfl,rfl⟩:=hcut;have H:iL l.length=64\/iL l.length=128:=by rw[z];split<;>simp
 have a:nK l=iJ (mI l) (iL l.length-8) 8 (j3 64 (l.length*8)) 8:=N;have s:=O a;have Ti:=O (Rm l);have bm:=O (Cm l);clear a z bs;generalize iL l.length=a at H s Sv⊢;generalize nK l=r at Sv s Ti;generalize mI l=ea at s bq bm;have bB:64<=a:=Y;have bA:a<=128:=Y;have bo:∀W,(Instr.sliceAt 50 (ju (ja ⟨E,0,jd⟩) a 128) (ja (A jf ((a:T)-8))) jd jd).run ji W=.ok (ju (ja ⟨E,a-8,jd⟩) 8 (128-(a-8))) W:=λW=>by
  have h:=uV (P:=ji) 50 5 jQ gU E 0 a 128 (a-8) Y Y W;rw[show((a-8:I):T)=(a:T)-8 by omega,show a-(a-8)=8 by omega,kn]at h;exact h
 have bb:=O H;clear H
 go_wp2_with fail
 refine(Mz E (a-8) (128-(a-8)) 5 ea l.length Y _ bq.out (by rw[bm];omega) Y).mono ?_;rintro e H ⟨rfl,z,bn⟩;rw[<-s]at bn;have VP:=O bn;have WS:jl (aQ H (D+1) 281 (fS y r 0)):=(z.block _ Y).trans bI;have RX:jl (aM (D+1) (D+2) W2 H):=bK.trans (aM.of_below (g:=D+1) (z.below (jA E))) bv;have bs:E<H.heap.size:=by have:=z.size;have:=bM.out;omega
 have a4:=O bs;clear z bn bs bo bq bI bK bM s bm Tn SX bw d bu F ba HA
 go_wp2_with fail
 go_loopw [6] (λv m=>∃(k n c:I) (p:jC jR),v=ju p n c/\n<=c/\jl (64*k<=a/\n=a-64*k/\(0<n->p=ja ⟨E,64*k,jd⟩))/\jl (aQ m (D+1) 281 (fS y r k))/\jl (aM (D+1) H.heap.size H m)) (λv _=>uc v)
 case atStart=>exact⟨0,a,128,ja ⟨E,0,jd⟩,N,bA,⟨by omega,by omega,λ_=>rfl⟩,WS,aM.refl _ _ _⟩
 obtain⟨d,s,z,p2,rfl,bm,SU,ba,F⟩:=hrel
 by_cases SY:0<s
 ·have bq:=ao (0<(s:T))
  go_upto_region 15 with fail
  obtain⟨q1,q2,V⟩:=SU.out;obtain rfl:p2=ja ⟨E,64*d,jd⟩:=V Y;have aa:=zU r d (by rw[Ti];have:=bb.out;omega);have bn:64<=s:=aA bb;have ad:∀j,j<64->wr.cell? ⟨E,64*d+j,jd⟩=ja (A jF (((r.drop (64*d)).take 64).getD j 0).toNat):=λj f=>by
   have h1:b8 wr E 5 r:=(F.block _ a4.out Y).trans VP;rw[EU r d j f];exact h1.cell (by rw[Ti];omega)
  have S9:=O ad;have bf:=O aa;have bs:D+1<H.heap.size:=aA a4;have al:en wr:=HN.below (B.trans ((RX.below Y Y).trans (F.below Y Y))) (aA bd);have bg:=O al;have bh:=O (tg y r d a5);have bO:∀W,(Instr.sliceAt 50 (ju (ja ⟨E,64*d,jd⟩) s z) jd (ja (A jf 64)) jd).run ji W=.ok (ju (ja ⟨E,64*d,jd⟩) 64 z) W:=
   sS (P:=ji) 50 5 jQ gU E (64*d) s z 64 Y Y
  obtain⟨p',au,t⟩:=EF (P:=ji) 50 5 jQ gU E (64*d) s z 64 bn bm;have bk:=O au;replace t:∀W,(Instr.sliceAt 50 (ju (ja ⟨E,64*d,jd⟩) s z) (ja (A jf 64)) jd jd).run ji W=.ok (ju p' (s-64) (z-64)) W:=t;clear ad aa al au V q1 q2
  go_wp2_with fail
  refine(CG (D+1) E (64*d) 64 z _ _ bh.out bf (jA _) Y _ ba.out S9 bg).mono ?_;rintro e w' ⟨rfl,u,a1⟩;have a2:=O u;have bl:=O (F.trans a1 F.size);clear u a1
  go_wp2
  go_roundw
  case rel=>
   have q:=SU.out;refine⟨d+1,s-64,z-64,p',N,by omega,⟨by omega,by omega,λh=>?_⟩,a2,bl⟩;rw[bk h];congr 2
  case measure=>simp[uc];omega
 obtain rfl:s=0:=Y;have V:d=a/64:=by have:=SU.out;have:=bb.out;omega
 have f:jl (aQ wr (D+1) 281 (fS y r (a/64))):=V▸ba;have q:=O (tg y r (a/64) a5);clear ba V SY;generalize fS y r (a/64)=V at f q Sv;have aa:b8 wr D 23 (dU V 0):=(F.block _ (aA a4) Y).trans ((RX.block _ Y Y).trans HD);have ad:jn D w wr:=B.trans ((RX.below Y Y).trans (F.below Y (aA a4)));have al:=O aa;have au:=O ad;clear aa ad F RX HD B SU VP WS bb Ti a4 bc a5
 go_upto_region 16 with fail
 refine qb ?_;refine qc N 281 _ N (D+1) N 281 (V.map bR).toArray (0,0) _ f.out underlying281 N (by rw[jZ,kw,q];rfl) ?_;have B:∀(k:I) (hk:k<8) (W:jc),(Instr.index 281 (jT (V.map bR).toArray) (A jf (k:T))).run ji W=.ok (A jp ((V.getD k 0).toNat:T)) W:=λk hk W=>Lj V q k hk W
 generalize(V.map bR).toArray=bb at B⊢;have ad:=O B;clear B f;obtain⟨B,rfl⟩:∃B:jc,B=wr:=⟨_,N⟩
 go_wp2_with fail
 go_loopw [54] (λf m=>∃i:I,f=A jf i/\i<=8/\jl (b8 m D 23 (dU V i))/\jl (aZ D B m)) (λf _=>(8-jy f).toNat)
 case atStart=>exact⟨0,N,by omega,al,aZ.refl _ _⟩
 obtain⟨i,rfl,hi,f,aa⟩:=hrel
 by_cases Y9:i<8
 ·have a1:=ad i Y9
  have m:dU V (i+1)=iJ (dU V i) (4*i) 4 ((V.getD i 0).setWidth 64) 4:=N;have F:=O m;have a4:=O (AT V i);have bo:∀W,(Instr.sliceAt 23 (jG (ja ⟨D,0,jd⟩)) (ja (A jf (4*(i:T)))) (ja (A jf (4*(i:T)+4))) jd).run ji W=.ok (ju (ja ⟨D,4*i,jd⟩) 4 (32-4*i)) W:=λW=>by
   have h:=H5 (P:=ji) 23 5 32 qs gU D 0 (4*i) (4*i+4) Y Y Y W;rw[show 4*i+4-4*i=4 by omega,kn]at h
   simpa using h
  clear m;generalize V.getD i 0=m at a1 F;have a5:=ao ((i:T)<8)
  go_wp2_with fail
  refine(PQ D (4*i) (32-4*i) 23 (dU V i) m _ f.out (by rw[a4];omega) Y).mono ?_;rintro e w' ⟨rfl,h,u⟩;rw[<-F]at u;have a2:=O u;have ba:=O (aa.trans h);clear h u
  go_wp2
  go_roundw
  case rel=>exact⟨i+1,by go_num,by omega,a2,ba⟩
  case measure=>simp[jy];omega
 have a5:=ap ((i:T)<8);have h:i=8:=Y;have a1:jl (b8 wr D 23 (dq l)):=by rw[Sv];exact h▸f
 clear f h;have m:wr.heap[D]?=ja (jj ((dq l).map v8).toArray 23 (0,0)):=a1.out;have t:((dq l).map v8).toArray.size=32:=by rw[jZ,kw,lJ]
 have u:((dq l).map v8).toArray.all (·.oneCell')=jg:=by
  rw[o4];intro a3 f;exact g8 _ a3 (ah f)
 have f:jn w w wr:=by rw[<-bd];exact au.trans (aa.below (jA _))
 have SF:=O f;clear f;generalize h:((dq l).map v8).toArray=f at m t u;have HQ:=O h;clear h;have h:=O m;have F:=O t;have SE:=O u;clear m t u
 go_upto_region 21 with fail
 refine qb ?_;refine qc N 23 _ N D N 23 f (0,0) _ h.out qs N (by rw[F];rfl) ?_;refine qd N λ_ m=>q5 23 _ _ N D f N N 23 f h.out (by rw[F];rfl) N SE (m _ _ ?_)
 rw[dR h]
 go_wp2_with fail
 refine nz (v:=jT f) ?_ N ?_
 ·exact q6 N _ _ _ 23 _ (0,0) _ N h qs N (by rw[F];rfl)
 exact⟨by rw[HQ],SF⟩
theorem Dq:(ji.info? 23).map (·.size)=ja 32:=by kernel_rfl
theorem wO(w:jc)(c a:jt jh)(d:c.size=32)(b:a.size=32)(e:a.all (·.oneCell')=jg):
 (storeCells ⟨w,0,jd⟩ a.toList 0).run ji (w.alloc (jj c 23))=.ok () (w.alloc (jj a 23)):=
 run_storeCells_new w _ c a (by rw[Dq,b]) (by rw[d,b]) e
def gg:af:=[116,97,103]
def cS(t l:af):af:=dq (dq t++l)
theorem gX(t l):(cS t l).length=32:=lJ _
theorem b8.lt'(h:b8 w g t c):g<w.heap.size:=(jO.1 h).1
theorem en.lt(h:en w):3<w.heap.size:=kM (h.cell 0 G)
theorem fU.below(h:fU w)(a:jn B w w')(b:w.heap.size<=B):fU w':=(Lib.tabBelow_of_tabIs h) _ (a.mono b)
def rc:ByteArray:=⟨#[116,97,103]⟩
def nN(w:jc):jc:=Lib.bytesWorld w 5 rc
def vE(w:jc):I:=grownCap w 3 0 5
theorem GZ(w:jc):(convert 9 50 (qt ⟨#[116,97,103]⟩)).run ji w=.ok (ju (ja ⟨w,0,jd⟩) 3 (vE w)) (nN w):=
 Lib.run_convert_string_bytes (P:=ji) w 9 50 5 rc qw jQ qY
theorem IZ(w:jc):aP (nN w) (ju (ja ⟨w,0,jd⟩) 3 (vE w)) gg:=by
 refine⟨_,_,N,grownCap_ge w 3 0 5,λh=>(by cases h),λ_=>⟨w.heap.size,0,N,λj a=>?_⟩⟩;have h:=Lib.bytesWorld_cell w 5 rc j a;rw[kn];refine h.trans ?_
 match j,a with
 |0,_=>rfl
 |1,_=>rfl
 |2,_=>rfl
theorem Gh(w:jc)(B:I)(a:B<=w.heap.size):jn B w (nN w):=by
 refine⟨N,N,N,?_,λk hk=>Lib.bytesWorld_at_old w 5 rc k Y⟩;have:=Lib.bytesWorld_size w 5 rc;unfold nN;omega
theorem GR(v:jh)(l:af)(W:l.length<=900000)(w:jc)(y:aP w v l)(a:en w)(b:fU w):
 js ji 123 #[qt ⟨#[116,97,103]⟩,v] w λe w'=>e=jq (jT ((cS gg l).map v8).toArray)/\jn w w w':=by
 have q:=GZ;have M:=O y;obtain⟨n,o,rfl,-,-,-⟩:=y;have z:=O a;have B:=O b;clear a b
 go_enter func123,ntmps123
 go_wp2_with fail
 have a:jn w w (w.alloc (jj aT 23)):=(jK _ w).alloc (jA _) _;have f:b8 (w.alloc (jj aT 23)) w.heap.size 23 (dU [] 0):=jL w _;have g:(w.alloc (jj aT 23)).heap.size=w.heap.size+1:=by simp
 obtain⟨c,j⟩:=J (w.alloc (jj aT 23));rw[<-j]at a f g⊢;have b:=IZ c;have h:jn w w (nN c):=a.trans (Gh c _ Y);have i:b8 (nN c) w.heap.size 23 (dU [] 0):=f.below (Gh c _ (jA _)) Y;rw[g]at b;obtain⟨C,k⟩:=J (vE c);rw[<-k]at b⊢;obtain⟨X,p⟩:=J (nN c);rw[<-p]at b h i⊢;have d:=O h;have m:=O i;clear a f g j k p h i q;refine(sC _ gg G _ b (z.below d (jA _)) (B.below d (jA _))).mono ?_;rintro e w' ⟨rfl,p⟩;have x:b8 w' w.heap.size 23 (dU [] 0):=m.below p m.lt';have h:=O x;have q:=ac d p;have i:((dq gg).map v8).toArray.size=32:=by rw[jZ,kw,lJ]
 have j:((dq gg).map v8).toArray.all (·.oneCell')=jg:=by
  rw[o4];intro r s;exact g8 _ r (ah s)
 have t:cS gg l=dq (dq gg++l):=N;have u:=lJ gg;generalize dq gg=a at i j t u⊢;have k:=O u;have P:=O t;generalize f:(a.map v8).toArray=g at i j⊢;have D:=O f;have E:=O j;clear f j p x b t u;have b:=wO w' aT g N i E;clear m d
 go_upto_region 2 with fail
 clear b;have d:b8 (w'.alloc (jj g 23)) w'.heap.size 23 a:=by
  show _ =ja (Obj.cells (a.map v8).toArray 23 (0,0));rw[D];exact jL w' _
 have j:jn w w (w'.alloc (jj g 23)):=q.alloc q.size _;have p:b8 (w'.alloc (jj g 23)) w.heap.size 23 (dU [] 0):=(jH _ _ _ h.lt').trans h;have Q:w.heap.size≠w'.heap.size:=by have:=h.lt';omega
 obtain⟨m,x⟩:=J w'.heap.size;rw[<-x]at d Q⊢;obtain⟨b,F⟩:=J (w'.alloc (jj g 23));rw[<-F]at d j p⊢;have R:=O d;have t:=O j;have u:=O p;clear d j p F x q h D E i;have d:aP b (ju (ja ⟨m,0,jd⟩) 32 32) a:=by
  refine⟨_,32,by rw[k],by rw[k];exact jA _,λh=>(by cases h),λ_=>⟨m,0,N,λj i=>?_⟩⟩;rw[kn];exact R.cell i
 have h:aP b (ju n l.length o) l:=M.below t;have S:=O d;have U:=O h;clear d h
 go_wp2_with fail
 have d:jn b b (b.alloc (jj #[ju (ja ⟨m,0,jd⟩) 32 32,ju n l.length o] 50)):=(jK _ _).alloc (jA _) _;have j:=O d;clear d;refine(te b.heap.size 2 50 [ju (ja ⟨m,0,jd⟩) 32 32,ju n l.length o] [a,l] N N (by have:=k.out;simp;omega) _ (jL b _) ?_ G).mono ?_
 ·intro i d
  match i,d with
  |0,_=>exact S.below j
  |1,_=>exact U.below j
 rintro e i ⟨D,rfl,d,q⟩;have x:[a,l].flatten=a++l:=by simp
 rw[x]at d;have h:jn b b i:=j.trans (q.mono ax);have E:aP i D (a++l):=aP.of_own d;have F:jn w w i:=t.trans (h.mono t.size);have p:=O F;have H:=O h;clear d q h F x
 go_wp2_with fail
 refine(sC D (a++l) (by have:=k.out;simp;omega) _ E (z.below p (jA _)) (B.below p (jA _))).mono ?_;rintro e h ⟨rfl,d⟩;have F:b8 h w.heap.size 23 (dU [] 0):=(u.below H u.lt').below d (by have:=u.lt';have:=H.size;omega);have K:=O F;have V:=ac p d;rw[<-P];have q:((cS gg l).map v8).toArray.size=32:=by rw[jZ,kw,gX]
 have x:((cS gg l).map v8).toArray.all (·.oneCell')=jg:=by
  rw[o4];intro r s;exact g8 _ r (ah s)
 clear d F E;generalize f:((cS gg l).map v8).toArray=d at q x⊢;have s:=O f;have r:=O q;have E:=O x;clear f q x
 go_wp2_with (refine qd N λ_ f=>q5 23 _ _ N w.heap.size d N N 23 _ K.out (by rw[r];rfl) (by rw[r];simp[dU]) E (f _ _ ?_))
 have f:(h.setRow w.heap.size d).heap[w.heap.size]?=ja (jj d 23 (0,0)):=setRow_heap _ _ _ _ _ _ K.out;have q:jn w w (h.setRow w.heap.size d):=below_setRow V (jA _) _;generalize h.setRow w.heap.size d=w8 at f q⊢;have x:=O q;have F:=O f;clear f q
 go_wp2_with fail
 refine nz (v:=jT d) ?_ N ?_
 ·exact q6 N _ _ _ 23 _ (0,0) _ N F qs N (by rw[r];rfl)
 exact⟨by rw[s],x⟩
inductive Val where
 |mk (k n:T) (s:ByteArray) (l:je Val)
def Val.k:Val->T| .mk k _ _ _=>k
def Val.n:Val->T| .mk _ n _ _=>n
def Val.s:Val->ByteArray| .mk _ _ s _=>s
def Val.l:Val->je Val| .mk _ _ _ l=>l
abbrev emS:ByteArray:=⟨#[]⟩
def aX(s:ByteArray):af:=s.data.toList.map UInt8.toBitVec
def ofB(l:af):ByteArray:=⟨(l.map UInt8.ofBitVec).toArray⟩
theorem oI(l:af):aX (ofB l)=l:=by
 have e:(UInt8.toBitVec∘UInt8.ofBitVec)=id:=funext λb=>rfl
 simp[aX,ofB,e]
theorem yU(s:ByteArray):ofB (aX s)=s:=by
 obtain⟨d⟩:=s;have e:(UInt8.ofBitVec∘UInt8.toBitVec)=id:=funext λb=>rfl
 simp[aX,ofB,e]
theorem eW(s:ByteArray):(aX s).length=s.size:=by
 obtain⟨d⟩:=s;simp[aX,ByteArray.size]
def mn:I->I->af
 |0,_=>[]
 |f+1,a=>if a<128 then [j3 8 a]else j3 8 (a%128+128)::mn f (a/128)
theorem FE:∀(f g a:I),a<f->a<g->mn f a=mn g a
 |0,_,_,h,_=>ol h (xM _)
 |_,0,_,_,h=>ol h (xM _)
 |f+1,g+1,a,b,c=>by
  rw[mn,mn]
  by_cases h:a<128
  ·rw[jU h,jU h]
  rw[jS h,jS h,FE f g (a/128) Y Y]
def bV(a:I):af:=mn (a+1) a
def fw(n:T):I:=if 0<=n then 2*n.toNat else 2*(-(n+1)).toNat+1
def gt(a:I):T:=if a%2=0 then((a/2:I):T)else -((a/2:I):T)-1
theorem Cn(n:T):gt (fw n)=n:=by
 unfold gt fw
 by_cases h:0<=n
 ·rw[jU h,jU Y];omega
 rw[jS h,jS Y];omega
mutual
def enc:Val->af
 | .mk k n s l=>if k=1 then 1#8::bV (fw n)else if k=2 then 2#8::(bV s.size++aX s)else 3#8::(bV l.length++encs l)
def encs:je Val->af
 |[]=>[]
 |x::xs=>enc x++encs xs
end
theorem rf(a b:je Val):encs (a++b)=encs a++encs b:=by
 induction a with
 |nil=>simp[encs]
 |cons x a c=>simp[encs,c]
def aU:I->Val->Prop
 |f,.mk k n s l=>(k=1/\ -9223372036854775808<=n/\n<9223372036854775808/\s=emS/\l=[])\/(k=2/\n=0/\s.size<4611686018427387904/\l=[])\/
  (k=3/\n=0/\s=emS/\l.length<4611686018427387904/\match f with|0=>False|f+1=>∀x∈l,aU f x)
def cC:I->I->af->jC (I×af)
 |_,_,[]=>jd
 |f,i,b::l=>if(i=0\/b≠0#8)/\(i<9\/b.toNat<=1)then(if b.toNat<128 then ja (b.toNat,l)else
  match f with
  |0=>jd
  |f+1=>(cC f (i+1) l).map λr=>(b.toNat%128+128*r.1,r.2))else jd
def ei(g:af->jC (Val×af)):I->af->jC (je Val×af)
 |0,l=>ja ([],l)
 |n+1,l=>(g l).bind λr=>(ei g n r.2).map λq=>(r.1::q.1,q.2)
def eK(l:af):jC (I×af):=(cC 9 0 l).bind λr=>if r.1<=r.2.length then ja r else jd
def cM:I->af->jC (Val×af)
 |_,[]=>jd
 |f,b::l=>
  if b=1#8 then(cC 9 0 l).map λr=>(.mk 1 (gt r.1) emS [],r.2)
  else if b=2#8 then(eK l).map λr=>(.mk 2 0 (ofB (r.2.take r.1)) [],r.2.drop r.1)
  else if b=3#8 then match f with
   |0=>jd
   |f+1=>(eK l).bind λr=>(ei (cM f) r.1 r.2).map λq=>(.mk 3 0 emS q.1,q.2)
  else jd
def dec(l:af):jC Val:=(cM 16 l).bind λr=>if r.2=[]then ja r.1 else jd
theorem kF{a:I}(h:a<128):bV a=[j3 8 a]:=by unfold bV;rw[mn,jU h]
theorem oh{a:I}(h:¬a<128):bV a=j3 8 (a%128+128)::bV (a/128):=by unfold bV;rw[mn,jS h,FE a (a/128+1) (a/128) Y Y]
theorem P2(a:I):0<(bV a).length:=by
 by_cases h:a<128
 ·rw[kF h];simp
 rw[oh h];simp
theorem Cb(r:af):∀(f i a:I),i+f=9->a<128^(f+1)->(i=0\/0<a)->(f=0->a<=1)->a*2^(7*i)<2^64->cC f i (bV a++r)=ja (a,r)
 |f,i,a,q,s,c,h,k=>by
  by_cases d:a<128
  ·rw[kF d]
   have b:(j3 8 a).toNat=a:=by rw[qG];omega
   have g:i=0\/j3 8 a≠0#8:=by
    rcases c with c|c
    ·exact .inl c
    exact .inr λe=>by rw[e]at b;simp at b;omega
   have j:i<9\/a<=1:=by
    by_cases l:i<9
    ·exact .inl l
    exact .inr (h Y)
   cases f<;>simp only[j7,mT,cC,b,jU d,jU (And.intro g j)]
  rw[oh d];have b:(j3 8 (a%128+128)).toNat=a%128+128:=by rw[qG];omega
  have g:j3 8 (a%128+128)≠0#8:=λe=>by rw[e]at b;simp at b
  cases f with
  |zero=>exact ol (h N) Y
  |succ f=>
   have t:128^(f+1+1)=128^(f+1)*128:=mF ..;have l:a/128<128^(f+1):=by rw[Nat.div_lt_iff_lt_mul Y];omega
   have hk:2^(7*(i+1))=2^(7*i)*128:=by rw[show 7*(i+1)=7*i+7 by omega,sh]
   have m:a/128*128<=a:=Nat.div_mul_le_self _ _;have j:a/128*2^(7*(i+1))<2^64:=by
    rw[hk,j6 (2^(7*i)) 128,<-qD];exact xG (xN _ m) k
   have n:f=0->a/128<=1:=λe=>by
    subst e;have:i=8:=Y;subst this;have:a/128*2^(7*9)<2^64:=j;omega
   have o:=Cb r f (i+1) (a/128) Y l (.inr Y) n j;have p:¬a%128+128<128:=Y;simp only[j7,cC,b,jS p];rw[jU ⟨.inr g,.inl Y⟩,o];simp only[xo]
   congr 2
   omega
theorem yO(a:I)(b:a<2^64)(r:af):cC 9 0 (bV a++r)=ja (a,r):=by
 refine Cb r 9 0 a N (Nat.lt_trans b G) (.inl N) (λh=>ol h G) (ah b)
theorem rj(n:T)(a: -9223372036854775808<=n)(b:n<9223372036854775808):fw n<2^64:=by
 unfold fw;split<;>omega
theorem yu(a:I)(b:a<4611686018427387904)(r:af)(c:a<=r.length):eK (bV a++r)=ja (a,r):=by
 unfold eK;rw[yO a (Nat.lt_trans b G),xp,jU c]
theorem BM(x:Val):0<(enc x).length:=by
 obtain⟨k,n,s,l⟩:=x;rw[enc];split
 ·simp
 split<;>simp
theorem po(l:je Val):l.length<=(encs l).length:=by
 induction l with
 |nil=>simp
 |cons x l a=>have:=BM x;simp[encs];omega
theorem BC{g:af->jC (Val×af)}(r:af):∀(l:je Val),(∀x∈l,∀r,g (enc x++r)=ja (x,r))->ei g l.length (encs l++r)=ja (l,r)
 |[],_=>rfl
 |x::l,h=>by
  simp only[encs,oj,lw,ei];rw[h x (List.mem_cons_self ..),xp,BC r l (λy a=>h y (List.mem_cons_of_mem _ a))]
  rfl
theorem KY:∀(f:I) (x:Val),aU f x->∀r,cM f (enc x++r)=ja (x,r):=by
 intro f
 induction f with
 |zero=>
  rintro⟨k,n,s,l⟩ h r;rw[aU]at h
  rcases h with⟨rfl,a,b,rfl,rfl⟩|⟨rfl,rfl,a,rfl⟩|⟨-,-,-,-,h⟩
  ·rw[enc,jU N,j7,cM,jU N,yO _ (rj n a b)]
   simp[Cn]
  ·rw[enc,jS G,jU N,j7,cM,jS G,jU N,oj,yu _ a _ (by rw[qv,eW];omega)]
   have e:=eW s;simp only[xo];rw[xO e,xP e,yU]
  exact h.elim
 |succ f c=>
  rintro⟨k,n,s,l⟩ h r;rw[aU]at h
  rcases h with⟨rfl,a,b,rfl,rfl⟩|⟨rfl,rfl,a,rfl⟩|⟨rfl,rfl,rfl,a,h⟩
  ·rw[enc,jU N,j7,cM,jU N,yO _ (rj n a b)]
   simp[Cn]
  ·rw[enc,jS G,jU N,j7,cM,jS G,jU N,oj,yu _ a _ (by rw[qv,eW];omega)]
   have e:=eW s;simp only[xo];rw[xO e,xP e,yU]
  rw[enc,jS G,jS G,j7,cM,jS G,jS G,jU N,oj];have e:=po l;rw[yu _ a _ (by rw[qv];omega)];simp only[xp];rw[BC r l (λx d=>c x (h x d))]
  rfl
theorem NZ(x:Val)(h:aU 16 x):dec (enc x)=ja x:=by
 have:=KY 16 x h [];rw[sx]at this;unfold dec;rw[this]
 rfl
structure ak where
 k:T
 d:T
 p:T
 v:T
 c:T
structure Bx where
 node:T
 lev:T
 u:T
 body:af
structure Wl where
 dev:T
 u:T
 body:af
structure aD where
 folder:T
 epoch:T
 parent:af
 author:T
 chg:je ak
 path:je T
 box:je Bx
 wel:je Wl
 confirm:af
 r:T
 s:T
structure aK where
 dev:T
 since:T
 ver:T
structure aI where
 folder:T
 epoch:T
 last:af
 mem:je aK
 tree:je (T×T)
def vI(n:T):Val:=.mk 1 n emS []
def vT(b:af):Val:=.mk 2 0 (ofB b) []
def vL(l:je Val):Val:=.mk 3 0 emS l
def ak.val(x:ak):Val:=vL [vI x.k,vI x.d,vI x.p,vI x.v,vI x.c]
def Bx.val(x:Bx):Val:=vL [vI x.node,vI x.lev,vI x.u,vT x.body]
def Wl.val(x:Wl):Val:=vL [vI x.dev,vI x.u,vT x.body]
def aJ(c:aD):je Val:=
 [vI c.folder,vI c.epoch,vT c.parent,vI c.author,vL (c.chg.map ak.val),vL (c.path.map vI),vL (c.box.map Bx.val),vL (c.wel.map Wl.val),vT c.confirm,vI c.r,vI c.s]
def eM(s:ByteArray)(w:jc):jc:=Lib.bytesWorld w 5 s
def gu(s:ByteArray)(w:jc):I:=grownCap w s.size 0 5
theorem uz(s:ByteArray)(w:jc):(convert 9 50 (qt s)).run ji w=.ok (ju (ja ⟨w,0,jd⟩) s.size (gu s w)) (eM s w):=
 Lib.run_convert_string_bytes (P:=ji) w 9 50 5 s qw jQ qY
theorem sI(s:ByteArray)(w:jc):aP (eM s w) (ju (ja ⟨w,0,jd⟩) s.size (gu s w)) (aX s):=by
 refine⟨_,_,by rw[eW],by rw[eW];exact grownCap_ge w s.size 0 5,(λh=>(by cases h)),λ_=>⟨w.heap.size,0,N,λj a=>?_⟩⟩;rw[eW]at a;have h:=Lib.bytesWorld_cell w 5 s j a;rw[kn];refine h.trans ?_
 congr 3
 have b:j<s.data.toList.length:=ah a;simp only[aX,jW,xm];rw[qX b]
 rfl
theorem r6(s:ByteArray)(w:jc)(B:I)(a:B<=w.heap.size):jn B w (eM s w):=by
 refine⟨N,N,N,?_,λk hk=>Lib.bytesWorld_at_old w 5 s k Y⟩;have:=Lib.bytesWorld_size w 5 s;unfold eM;omega
theorem pJ(s:ByteArray)(X:s.size<=100000)(v:jh)(l:af)(hl:l.length<=900000)(w:jc)(z:aP w v l)(a:en w)(b:fU w):
 js ji 123 #[qt s,v] w λe w'=>e=jq (jT ((cS (aX s) l).map v8).toArray)/\jn w w w':=by
 have q:=uz s;have P:=O z;obtain⟨n,o,rfl,-,-,-⟩:=z;have B:=O a;have D:=O b;clear a b
 go_enter func123,ntmps123
 go_wp2_with fail
 have d:jn w w (w.alloc (jj aT 23)):=(jK _ w).alloc (jA _) _;have f:b8 (w.alloc (jj aT 23)) w.heap.size 23 (dU [] 0):=jL w _;have g:(w.alloc (jj aT 23)).heap.size=w.heap.size+1:=by simp
 obtain⟨c,k⟩:=J (w.alloc (jj aT 23));rw[<-k]at d f g⊢;have a:=sI s c;have h:jn w w (eM s c):=d.trans (r6 s c _ Y);have i:b8 (eM s c) w.heap.size 23 (dU [] 0):=f.below (r6 s c _ (jA _)) Y;rw[g]at a;have H:=eW s;obtain⟨C,m⟩:=J (gu s c);rw[<-m]at a⊢;obtain⟨W2,p⟩:=J (eM s c);rw[<-p]at a h i⊢;have b:=O h;have j:=O i;clear d f g k m p h i q;have x:=a;clear a;refine(sC _ (aX s) (by rw[eW];omega) _ x (B.below b (jA _)) (D.below b (jA _))).mono ?_;rintro e w' ⟨rfl,m⟩;have y:b8 w' w.heap.size 23 (dU [] 0):=j.below m j.lt';have d:=O y;have p:=ac b m;have h:((dq (aX s)).map v8).toArray.size=32:=by rw[jZ,kw,lJ]
 have i:((dq (aX s)).map v8).toArray.all (·.oneCell')=jg:=by
  rw[o4];intro q r;exact g8 _ q (ah r)
 have t:cS (aX s) l=dq (dq (aX s)++l):=N;have u:=lJ (aX s);generalize dq (aX s)=a at h i t u⊢;have k:=O u;have Q:=O t;generalize f:(a.map v8).toArray=g at h i⊢;have E:=O f;have F:=O i;clear f i m y x t u H;have i:=wO w' aT g N h F;clear j b
 go_upto_region 2 with fail
 clear i;have i:b8 (w'.alloc (jj g 23)) w'.heap.size 23 a:=by
  show _ =ja (Obj.cells (a.map v8).toArray 23 (0,0));rw[E];exact jL w' _
 have j:jn w w (w'.alloc (jj g 23)):=p.alloc p.size _;have t:b8 (w'.alloc (jj g 23)) w.heap.size 23 (dU [] 0):=(jH _ _ _ d.lt').trans d;have R:w.heap.size≠w'.heap.size:=by have:=d.lt';omega
 obtain⟨m,y⟩:=J w'.heap.size;rw[<-y]at i R⊢;obtain⟨b,H⟩:=J (w'.alloc (jj g 23));rw[<-H]at i j t⊢;have S:=O i;have u:=O j;have x:=O t;clear i j t H y p d E F h;have d:aP b (ju (ja ⟨m,0,jd⟩) 32 32) a:=by
  refine⟨_,32,by rw[k],by rw[k];exact jA _,λh=>(by cases h),λ_=>⟨m,0,N,λj i=>?_⟩⟩;rw[kn];exact S.cell i
 have h:aP b (ju n l.length o) l:=P.below u;have U:=O d;have V:=O h;clear d h
 go_wp2_with fail
 have d:jn b b (b.alloc (jj #[ju (ja ⟨m,0,jd⟩) 32 32,ju n l.length o] 50)):=(jK _ _).alloc (jA _) _;have j:=O d;clear d;refine(te b.heap.size 2 50 [ju (ja ⟨m,0,jd⟩) 32 32,ju n l.length o] [a,l] N N (by have:=k.out;simp;omega) _ (jL b _) ?_ G).mono ?_
 ·intro i d
  match i,d with
  |0,_=>exact U.below j
  |1,_=>exact V.below j
 rintro e i ⟨E,rfl,d,t⟩;have y:[a,l].flatten=a++l:=by simp
 rw[y]at d;have h:jn b b i:=j.trans (t.mono ax);have F:aP i E (a++l):=aP.of_own d;have H:jn w w i:=u.trans (h.mono u.size);have p:=O H;have K:=O h;clear d t h H y
 go_wp2_with fail
 refine(sC E (a++l) (by have:=k.out;simp;omega) _ F (B.below p (jA _)) (D.below p (jA _))).mono ?_;rintro e h ⟨rfl,d⟩;have H:b8 h w.heap.size 23 (dU [] 0):=(x.below K x.lt').below d (by have:=x.lt';have:=K.size;omega);have M:=O H;have W:=ac p d;rw[<-Q];have t:((cS (aX s) l).map v8).toArray.size=32:=by rw[jZ,kw,gX]
 have y:((cS (aX s) l).map v8).toArray.all (·.oneCell')=jg:=by
  rw[o4];intro q r;exact g8 _ q (ah r)
 clear d H F;generalize f:((cS (aX s) l).map v8).toArray=d at t y⊢;have F:=O f;have q:=O t;have H:=O y;clear f t y
 go_wp2_with (refine qd N λ_ f=>q5 23 _ _ N w.heap.size d N N 23 _ M.out (by rw[q];rfl) (by rw[q];simp[dU]) H (f _ _ ?_))
 have f:(h.setRow w.heap.size d).heap[w.heap.size]?=ja (jj d 23 (0,0)):=setRow_heap _ _ _ _ _ _ M.out;have r:jn w w (h.setRow w.heap.size d):=below_setRow W (jA _) _;generalize h.setRow w.heap.size d=w8 at f r⊢;have t:=O r;have y:=O f;clear f r
 go_wp2_with fail
 refine nz (v:=jT d) ?_ N ?_
 ·exact q6 N _ _ _ 23 _ (0,0) _ N y qs N (by rw[q];rfl)
 exact⟨by rw[F],t⟩
section
open Go.RowKit Go.Shelf
attribute [local go_sem] Oper.semAt_some
def QS:I:=2305843009213688668
theorem rF:QS=2305843009213688668:=N
def mV(n:I)(b:jm 8):I:=(n*256+b.toNat)%QS
def iq(l:af):I:=l.foldl mV 0
theorem QU(n:I)(b:jm 8):mV n b<QS:=qC _ G
theorem Fu:∀(l:af) (n:I),n<QS->l.foldl mV n<QS
 |[],n,h=>h
 |b::r,n,h=>Fu r _ (QU n b)
theorem uT(l:af):iq l<QS:=Fu l 0 G
theorem Jd(l:af)(i:I)(b:jm 8)(h:l[i]?=ja b):iq (l.take (i+1))=mV (iq (l.take i)) b:=by
 obtain⟨a,e⟩:=m0.1 h;rw[xQ a,e];simp[iq]
def nS(a l:af):I:=1+iq (cS a l)
theorem yf(a l:af):1<=nS a l/\nS a l<QN:=by
 have:=uT (cS a l);unfold nS;rw[rF]at this;unfold QN;omega
theorem QL(a b:I)(f:a<2305843009213688668)(d:b<18446744073709551616)(w:jc):
 js ji 232 #[A jk a,A jk b,A jk 2305843009213688668] w λe w'=>
  ∃(q:T) (r:I),e=jq (jN #[A jk q,A jk r])/\jl (r=(a*18446744073709551616+b)%QS)/\jn w w w':=by
 rcases pz a with rfl|h
 ·refine(DivS.div64_0 b d w).mono ?_
  rintro e w' ⟨q,rfl,c⟩;exact⟨q,_,N,O (by rw[sg,kn,rF]),c⟩
 refine(DivS.div64_1 a b h f d w).mono ?_;rintro e w' ⟨q,rfl,c⟩;exact⟨q,_,N,O (by rw[rF]),c⟩
def M8(a n:I)(w w':jc):Prop:=jB w' a 163 (A jk n)/\w.heap.size<=w'.heap.size/\w'.os=w.os/\w'.tape=w.tape/\w'.output=w.output/\∀k,k<w.heap.size->k≠a->w'.heap[k]?=w.heap[k]?
theorem QR(b:jm 8)(n c g:I)(w:jc)(t:n<QS)(a:jB w c 163 (A jk n))(h:jB w g 163 (A jk 2305843009213688668))(j:c≠g):
 js ji 253 #[v8 b,jG (ja ⟨c,0,jd⟩),jG (ja ⟨g,0,jd⟩)] w λe w'=>(∃v,e=jq v)/\M8 c (mV n b) w w':=by
 have u:=a.cell;have v:=h.cell;have l:=b.isLt;rw[rF]at t;have o:bits .or .u64 (jJ.wrap ((n:T)*256)) (b.toNat:T)=((n%72057594037927936*256+b.toNat:I):T):=by
  have d:jJ.wrap ((n:T)*256)=((n%72057594037927936*256:I):T):=by rw[n0];omega
  rw[d,qZ _ _ Y Y,show n%72057594037927936*256=(n%72057594037927936)<<<8 by rw[qT],<-Nat.shiftLeft_add_eq_or_of_lt (b:=b.toNat) (i:=8) l]
 have x:(n:T)/72057594037927936=((n/72057594037927936:I):T):=Y;obtain⟨p,k⟩:=J (n/72057594037927936);obtain⟨d,q⟩:∃d:I,d=n%72057594037927936*256+b.toNat:=⟨_,N⟩;rw[<-q]at o;rw[<-k]at x;have y:=O (QL p d Y Y);have s:jl (p*18446744073709551616+d=n*256+b.toNat):=O Y;have F:=O j;have z:=O a;have r:v8 b=A jF b.toNat:=N;rw[r];obtain⟨m,f⟩:=J b.toNat;rw[<-f]at l o s⊢;have B:=O f;have H:(0:T)<=m:=Y;clear k q j a h r f
 go_enter func253,ntmps253
 go_wp2_with fail
 refine(y _).mono ?_;rintro e j ⟨q,r,rfl,C,a⟩;have h:=z.out;have f:jB j c 163 (A jk n):=(a.block _ h.lt).trans h;have D:=O a;have K:=f.cell;have M:=f.frozen;have E:=O f;clear a u v f h
 go_wp2
 refine xq (mb N _ _ _) N ?_;refine⟨⟨_,N⟩,?_⟩;have f:=E.set (A jk r);have h:r=mV n b:=by unfold mV;rw[C,s,B]
 rw[h]at f⊢;have a:=D.out;refine⟨f,by rw[World.size_setCell];exact a.size,a.os,a.tape,a.output,λk hk u=>?_⟩;exact(ow _ _ _ _ u).trans (a.block k hk)
theorem PE(args:jt jh)(w:jc):(qz 253 args).run ji w=.ok (.enter 253 args) w:=by rfl
theorem Ho(a:jt jh)(k:I)(v:jh)(hk:k<32)(b:a[k]?=ja v)(W:jc):
 (Instr.index 23 (jT a) (A jf (k:T))).run ji W=.ok v W:=by
 have c:=qs;have d:(0:T)<=(k:T)/\(k:T)<((32:I):T):=Y;unfold Instr.index;simp[asIntOf,xt c,part,b,hk]
theorem Qd(d:af)(l:d.length=32)(w:jc):
 js ji 214 #[jT (d.map v8).toArray,A jk 2305843009213688668] w λe w'=>e=jq (A jk (iq d:I))/\jn w w w':=by
 have S:0<d.length:=Y;have j:(d.map v8).toArray.size=32:=by rw[jZ,kw,l]
 have a:∀(k:I) (b:jm 8),d[k]?=ja b->∀W:jc,(Instr.index 23 (jT (d.map v8).toArray) (A jf (k:T))).run ji W=.ok (v8 b) W:=λk b g W=>by
  have hk:=(m0.1 g).1;exact Ho _ k _ Y (by rw[List.getElem?_toArray,xm,g];rfl) W
 obtain⟨i,c⟩:=J ((d.map v8).toArray);rw[<-c]at a j⊢;have u:=O a;have n:=O l;clear c l a
 go_enter func214,ntmps214
 go_upto_region 2 with fail
 obtain⟨m,f⟩:=J (((w.alloc (jj i 23)).alloc (jj #[A jk 2305843009213688668] 163)).alloc (jj #[A jk 0] 163));obtain⟨a,c⟩:=J w.heap.size;have o:m.heap[a]?=ja (jj i 23):=by
  have h:=jL w (jj i 23);rw[f,c];exact(jH _ _ _ (by simp;omega)).trans ((jH _ _ _ ax).trans h)
 have q:jB m (a+1) 163 (A jk 2305843009213688668):=by
  have h:=Boxed.new (w.alloc (jj i 23)) 163 (A jk 2305843009213688668);rw[km]at h;rw[f,c];exact h.alloc _
 have r:jB m (a+1+1) 163 (A jk (0:I)):=by
  have h:=Boxed.new ((w.alloc (jj i 23)).alloc (jj #[A jk 2305843009213688668] 163)) 163 (A jk (0:I));rw[km,km]at h;rw[f,c];exact h
 have h:jn a w m:=by rw[f,c];exact(((jK _ w).alloc (jA _) _).alloc ax _).alloc (by simp;omega) _
 have s:a+3<=m.heap.size:=by rw[f,c];simp
 rw[<-f,<-c];have x:=O c;have y:=O q;have z:=O r;have B:=O h;have C:=O s;clear f c q r h s;refine qb ?_;refine qc N 23 _ N a N 23 i (0,0) _ o qs N (by rw[j];rfl) ?_;clear o j
 go_wp2_with fail
 go_loopw [10] (λt wr=>∃k:I,t=A jf k/\k<=32/\jl (jB wr (a+1+1) 163 (A jk (iq (d.take k):I)))/\jl (jB wr (a+1) 163 (A jk 2305843009213688668))/\jl (jn a w wr)) (λt _=>(32-jy t).toNat)
 case atStart=>exact⟨0,N,by omega,O z,y,B⟩
 obtain⟨k,rfl,hk,f,h,o⟩:=hrel
 by_cases U:k<32
 ·have l:=ao ((k:T)<32)
  obtain⟨b,g⟩:∃b,d[k]?=ja b:=by
   have:=n.out;exact⟨_,qX Y⟩
  have s:=u k b g;have c:=O (QR b (iq (d.take k)) (a+1+1) (a+1) wr (uT _) f h Y);have t:=O (Jd d k b g);have D:qV (v8 b)=jg:=N;clear g;generalize v8 b=V at s c D;have q:=PE
  go_wp2_with fail
  refine(c).mono ?_;rintro e X ⟨⟨v,rfl⟩,j⟩;have E:=O j;clear j c q
  go_wp2_with fail
  go_roundw
  case rel=>
   obtain⟨F,H,K,M,P,q⟩:=E.out;have r:=h.out;have Q:=r.lt;have c:=o.out;refine⟨k+1,N,by omega,O (by rw[t];exact F),O ((q _ Q Y).trans r),O ⟨K.trans c.os,M.trans c.tape,P.trans c.output,oi c.size H,λj R=>?_⟩⟩;exact(q j (by have:=c.size;have:=C.out;omega) Y).trans (c.block j R)
  case measure=>simp only[jy];omega
 have l:=ap ((k:T)<32);obtain rfl:k=32:=Y;have c:=f.out;rw[List.take_of_length_le (by rw[n];omega)]at c;have t:=c.cell;have D:=c.frozen;have j:=O c;clear c f
 go_wp2_with fail
 obtain⟨f,c⟩:=J (wr.setCell ⟨a+1+1,0,jd⟩ (A jk (iq d:I)));have q:jB f (a+1+1) 163 (A jk (iq d:I)):=by rw[c];exact j.set _
 have r:jn a w f:=by rw[c];exact tx o.out (p:=⟨a+1+1,0,jd⟩) (by simp;omega) _
 rw[<-c];have s:=q.cell;refine nz (v:=A jk (iq d:I)) (by simp[results,results214,go_sem,s]) N ?_;exact⟨N,by rw[<-x];exact r⟩
end
section
open Go.RowKit Go.Shelf
attribute [local go_sem] Oper.semAt_some
theorem vX:(ji.info? 3).map (λi=>(i.zero,i.size,i.bytes))=ja (ja (A jf 0),1,8):=by kernel_rfl
theorem eo.later{f:jt jh}{encs:H->jt jh}{S b V:je H->Prop}(h:eo P g f encs e B S b V w)(c:jn w w a):eo P g f encs e B S b V a:=
 λl d w' W lb i j k m=>h l d w' W (c.trans (lb.mono c.size)) i j k m
theorem JM{gf:I}{lb:jt jh}(a:∀args w,(qz gf args).run ji w=.ok (.enter gf args) w){m:I->Prop}{n₀:I}{S F V:je T->Prop}{w:jc}
 (b:eo ji gf lb (λx:T=>#[A jf x]) m n₀ S F V w) (H:n₀<=w.heap.size) (q:∀k,m k->k<w.heap.size) (c:∀d,V d->d.length<=1000000) (d:I) (o:d<=w.heap.size) (M:∀k,m k->d<=k):
 js ji 212 #[ju jd 0 0,.func (.func gf) #[] lb] w λe w'=>∃v xs,e=jq v/\S xs/\w'.ownsRow w 3 1 v xs.length (xs.map (jb .i64))/\jn d w w':=by
 obtain⟨P,Q,R,U,X⟩:=oo vX;have aa:=O b;have ad:=O a;have HV:=O c;clear b a c;refine(qn (n:=0)).1 ?_;refine xr func212 N trivial ?_ N;simp only[ntmps212,jZ,lw,qe,qf,qg,qh,qi,qj,qk,mT,j7]
 gi_wp2_with fail
 obtain⟨f,a⟩:=J (w.alloc (jj #[ju jd 0 0] 58));have bN:jB f w.heap.size 58 (ju jd 0 0):=by rw[a];exact Boxed.new w _ _
 have r:jn w w f:=by rw[a];exact(jK _ w).alloc (jA _) _
 have a1:w.heap.size+1<=f.heap.size:=by rw[a];simp
 rw[<-a];clear a;refine o5 (n:=0) (gf:=gf) (lb:=lb) N ad (aa.later r) Y (λ_=>rfl) (λk hk=>by have:=q k hk;omega)
  (λa Ψ W=>lI w.heap.size 58 w.heap.size 3 1 a.length (a.map (jb .i64)) (λ_=>True) Ψ W/\(jn d w W/\∀k,Ψ k->d<=k))
  (λ_ _ _ _=>False)
  ((pN f.heap.size w.heap.size 58 w.heap.size 3 1 (λa=>a.length) (λa:je T=>a.map (jb .i64)) (λ_ _=>True)).and (l9 _ _ w o Y))
  (λ_=>fA _ _)
  ⟨⟨_,bN,λh=>by have:=q _ h;omega,xj _ _ _ _,by simp[xh],trivial⟩,r.mono o,M⟩
  (λx s _ _=>s={tmps:=#[ju jd 0 0,.func (.func gf) #[] lb,jG (ja ⟨w,0,jd⟩),jE,ju jd 0 0,A jf x,.func (.func gf) #[] lb,A jf x,jE,jE,jE,jE,jE],defers:=[]}) (fA _ _)
  ?assign ?body ?done ?stop
 case assign=>
  intro l a x Ψ t K b _ i
  gi_wp2
  exact i _ _ (jK _ _) b N
 case body=>
  rintro l a x Ψ s t ⟨⟨v,b,u,g,y,-⟩,c,z⟩ rfl j K a2 Zr;have al:=HV _ j;rw[qv,List.length_singleton]at al;have hc:=b.cell;have p:=O c;have a3:=c.size;clear c j
  gi_wp2_with (gi_at_builtin;refine wpListIn_append_own_at _ N _ _ 58 N w.heap.size 3 P (A jf 0) 1 8 underlying58 Q R U X N G _ _ _ N (g.alloc _) ⟨t,0,jd⟩ 1 1 [A jf x] N N (cell_one_new _ _ _) (by simp[qV]) (by unfold j0;omega) Y (by simp;omega) ?_;intro B w1 C D a4 E;obtain⟨g',a5,rfl⟩:=ownsRow_succ C;obtain⟨k,au⟩:=pI (B0:=f.heap.size) b G g Y (jA _) u y K C D (by intro j hj;rw[hj]at E;rcases E with h|h;exact .inl h.symm;exact .inr (ah h));have j:jB w1 w.heap.size 58 v:=(b.alloc _).kept D (by have:=b.not_row (e:=3) G g;exact this);have ba:=j.cell;have bb:=j.frozen)
  obtain⟨B,j,b2,b3,b4,b5⟩:=au;refine⟨⟨k.1,k.2.1.mono H,k.2.2⟩,⟨B,j,b2,by simpa using b3,b4,trivial⟩,p.trans (k.2.1.mono o),z⟩
 case done=>
  rintro D xs Ψ W k j ⟨⟨v,b,u,g,y,-⟩,c,z⟩ i;have hc:=b.cell;have p:=O c;clear c
  gi_wp2
  refine⟨by simp,.inl ⟨_,_,N,qo i,?_⟩⟩;exact⟨_,results_tmp N _ _ _,_,xs,N,j,ownsRow_putObj g _ i N,p.trans (iO Y)⟩
 intro D c a Ψ W _ _ h;exact h.elim
theorem BF{f:jt jh}(c:∀args w,(qz g args).run ji w=.ok (.enter g args) w){b:I->Prop}{n₀:I}{S j V:je T->Prop}{w:jc}
 (d:eo ji g f (λx:T=>#[A jf x]) b n₀ S j V w) (lb:n₀<=w.heap.size) (gf:∀k,b k->k<w.heap.size) (h:∀a,V a->a.length<=1000000) (a:I) (l:a<=w.heap.size) (i:∀k,b k->a<=k):
 js ji 167 #[.func (.func g) #[] f] w λe w'=>∃v xs,e=jq v/\S xs/\w'.ownsRow w 3 1 v xs.length (xs.map (jb .i64))/\jn a w w':=by
 have k:=O (JM c d lb gf h a l i);clear c d lb gf h i
 go_enter func167,ntmps167
 go_wp2_with fail
 refine k.mono ?_;rintro e i ⟨v,xs,rfl,lb,c,d⟩;have gf:=O c;have h:=O d;clear c d
 go_wp2
 go_ret;exact⟨v,xs,N,lb,gf,h⟩
end
section
variable{b:I}
open Go Go.RowKit Go.Maps
def aH(x:T):Prop:=(Lit.int .i64 x).wf=jg
theorem aH.of{x:T}(h: -9223372036854775808<=x/\x<=9223372036854775807):aH x:=WalkArith.wf_i64 Y
structure EKind(P:jI)(e:jr)(α:Type) where
 ev:α->jh
 el:α->Lit
 z0:α
 ok:α->Prop
 reads:∀x,ok x->plainElem (H:=Unit) P e (ev x)=ja (.lit (el x),[])
 inv:∀v z,plainElem (H:=Unit) P e v=ja z->∃x,ok x/\v=ev x/\z=(.lit (el x),[])
 inj:∀x y,el x=el y->x=y
 ok0:ok z0
section
variable {P:jI} {k e:jr}
def dw(he:P.underlying e=ja (.int .i64)):EKind P e T where
 ev:=.int .i64
 el:=.int .i64
 z0:=0
 ok:=aH
 reads:=λx h=>plainElem_int he h
 inv:=λv z h=>by obtain⟨a,b,c,d⟩:=plainElem_int_inv he h;exact⟨a,d,b,c⟩
 inj:=λx y h=>by cases h;rfl
 ok0:=by unfold aH;decide
theorem ND{P:jI}{e:jr}(he:P.underlying e=ja .bool){v:jh}{z:DataW Unit×je MemPlace}(h:plainElem P e v=ja z):∃a,v=.bool a/\z=(.lit (.bool a),[]):=by
 unfold plainElem at h;rw[he]at h
 cases v<;>simp at h
 exact⟨_,N,h.symm⟩
def gA(he:P.underlying e=ja .bool):EKind P e jv where
 ev:=.bool
 el:=.bool
 z0:=jw
 ok:=λ_=>True
 reads:=λx _=>plainElem_bool he x
 inv:=λv z h=>by obtain⟨a,b,c⟩:=ND he h;exact⟨a,trivial,b,c⟩
 inj:=λx y h=>by cases h;rfl
 ok0:=trivial
variable {α:Type} {E:EKind P e α}
def aS(E:EKind P e α)(k:jr)(w:jc)(b n:I)(f:T->jC α):Prop:=
 ∃D:DataW Unit,w.ownsMap P k (plainElem P e) b n D/\∀x,aH x->has D (.int .i64 x)=(f x).isSome/\∀v,f x=ja v->∀z,D.atKey (.int .i64 x) z=.lit (E.el v)
theorem AU{x:T}(h:aH x):WideAt.IsKeyLit (.int .i64 x):=trivial
theorem aS.made(E:EKind P e α)(k:jr)(w:jc):aS E k (w.alloc (.map #[] 0)) w.heap.size 0 (λ_=>jd):=
 ⟨.map [],World.ownsMap_made _ _ _ _,λx _=>⟨rfl,λv h=>by cases h⟩⟩
theorem aS.lt{w:jc}{c:I}{f:T->jC α}(h:aS E k w b c f):b<w.heap.size:=by
 obtain⟨D,a,_⟩:=h;exact a.lt
theorem aS.mono{w:jc}{n n':I}{f:T->jC α}(h:aS E k w b n f)(a:n<=n'):aS E k w b n' f:=by
 obtain⟨D,c,d⟩:=h;exact⟨D,c.mono a,d⟩
theorem aS.kept{w w':jc}{n:I}{a:jC I}{f:T->jC α}(h:aS E k w b n f)(c:w.grownBy w' a)(d:ja b≠a):aS E k w' b n f:=by
 obtain⟨D,e,g⟩:=h;exact⟨D,e.kept c d,g⟩
theorem aS.of_block{w w':jc}{n:I}{f:T->jC α}(h:aS E k w b n f)(a:w'.heap[b]?=w.heap[b]?):aS E k w' b n f:=by
 obtain⟨D,⟨c,d,e,g⟩,i⟩:=h;exact⟨D,⟨c,d,a.trans e,g⟩,i⟩
theorem aS.below{w w':jc}{n B:I}{f:T->jC α}(h:aS E k w b n f)(a:jn B w w')(c:b<B):aS E k w' b n f:=h.of_block (a.block b c)
theorem aS.alloc{w:jc}{n:I}{f:T->jC α}(h:aS E k w b n f)(o:Obj):aS E k (w.alloc o) b n f:=h.kept (World.grownBy_alloc w o jd) ax
theorem aS.setCell{w:jc}{n:I}{f:T->jC α}(h:aS E k w b n f){a:jR}(d:b≠a.block)(c:jh):aS E k (w.setCell a c) b n f:=by
 obtain⟨D,e,g⟩:=h;exact⟨D,e.setCell d c,g⟩
theorem aS.congr{w:jc}{c:I}{f g:T->jC α}(h:aS E k w b c f)(n:∀x,aH x->f x=g x):aS E k w b c g:=by
 obtain⟨D,d,e⟩:=h;exact⟨D,d,λx a=>by rw[<-n x a];exact e x a⟩
theorem aS.look{w:jc}{n:I}{f:T->jC α}(h:aS E k w b n f)(hk:P.underlying k=ja (.int .i64)){t:jr}(j:P.underlying t=ja (.map k e))(g:(zeroValue e).run P w=.ok (E.ev E.z0) w){x:T}(l:aH x)(ok:jv):
 (Instr.lookup t (.map (ja b)) (.int .i64 x) ok).run P w=.ok (if ok then .tuple #[E.ev ((f x).getD E.z0),.bool (f x).isSome]else E.ev ((f x).getD E.z0)) w:=by
 obtain⟨D,m,r⟩:=h;obtain⟨i,s⟩:=r x l;have o:keyOf P k (.int .i64 x)=ja (.int .i64 x):=keyOf_int_mk hk l;have p:∀v a,plainElem (H:=Unit) P e v=ja (D.atKey (.int .i64 x) (.lit (E.el E.z0)),a)->v=E.ev ((f x).getD E.z0):=λv a c=>by
  obtain⟨y,u,rfl,g⟩:=E.inv _ _ c;have d:=jD Prod.fst g;simp only at d
  cases hf:f x with
  |none=>
   rw[hf]at i;rw[atKey_of_not_has (ah i)]at d;have:E.z0=y:=E.inj _ _ (by injection d);simp[this]
  |some q=>
   rw[s q hf]at d;have:q=y:=E.inj _ _ (by injection d);simp[this]
 cases ok with
 |true=>
  obtain⟨v,a,d,c⟩:=m.look_ok (int_keyed hk) j g (E.reads _ E.ok0) o;rw[d,p v a c,i]
  rfl
 |false=>
  obtain⟨v,a,d,c⟩:=m.lookup (int_keyed hk) j g (E.reads _ E.ok0) o;rw[d,p v a c]
  rfl
theorem aS.put{w:jc}{c:I}{f:T->jC α}(h:aS E k w b c f)(hk:P.underlying k=ja (.int .i64)){t:jr}(o:P.underlying t=ja (.map k e))(p:c<j0){x:T}(a:aH x){n:α}(q:E.ok n):
 ∃w',(Instr.mapUpdate t (.map (ja b)) (.int .i64 x) (E.ev n)).run P w=.ok () w'/\aS E k w' b (c+1) (λy=>if y=x then ja n else f y)/\w.mapTurned w' b:=by
 obtain⟨D,d,j⟩:=h;have r:keyOf P k (.int .i64 x)=ja (.int .i64 x):=keyOf_int_mk hk a;obtain⟨w',s,u,B⟩:=d.store (int_keyed hk) o p r (E.reads _ q);refine⟨w',s,⟨_,u,λy l=>?_⟩,B⟩;dsimp only
 by_cases g:y=x
 ·subst g
  rw[jU N];refine⟨by rw[has_put_same d.isMap (AU a)];rfl,λv i z=>?_⟩
  cases i
  exact atKey_put_same d.isMap (AU a) _ _
 rw[jS g];have m:(Lit.int .i64 y)≠Lit.int .i64 x:=λh=>g (by injection h)
 refine⟨by rw[has_put_other m];exact(j y l).1,λv i z=>?_⟩;rw[atKey_put_other m];exact(j y l).2 v i z
theorem aS.del{w:jc}{c:I}{f:T->jC α}(h:aS E k w b c f)(hk:P.underlying k=ja (.int .i64)){t:jr}(l:P.underlying t=ja (.map k e)){x:T}(m:aH x)(d:jr):
 ∃w',(Builtin.delete_ #[t,k] d #[.map (ja b),.int .i64 x]).run P w=.ok (.tuple #[]) w'/\aS E k w' b c (λy=>if y=x then jd else f y)/\w.mapTurned w' b:=by
 obtain⟨D,o,g⟩:=h;have p:keyOf P k (.int .i64 x)=ja (.int .i64 x):=keyOf_int_mk hk m;obtain⟨w',q,r,s⟩:=o.drop (int_keyed hk) l p d;refine⟨w',q,⟨_,r,λy i=>?_⟩,s⟩;dsimp only
 by_cases a:y=x
 ·subst a
  rw[jU N];exact⟨has_del_same,λv n=>by cases n⟩
 rw[jS a];have j:(Lit.int .i64 y)≠Lit.int .i64 x:=λh=>a (by injection h)
 refine⟨by rw[has_del_other j];exact(g y i).1,λv n z=>?_⟩;rw[atKey_del_other j];exact(g y i).2 v n z
variable {w:jc} {ops:jt jz} {rest:je jz} {o:jz} {a:Act} {Q:jV->Act->jc->Prop}
theorem tO{he:P.underlying e=ja (.int .i64)}(c:o.guard=jd)(m x:lm)(t:jr)(d:o.op=Op.lookup t m x jg)(hk:P.underlying k=ja (.int .i64))(g:P.underlying t=ja (.map k e))
 (i:(zeroValue e).run P w=.ok (.int .i64 0) w) (b n:I) (f:T->jC T) (j:a.eval m=.map (ja b)) (h:aS (dw he) k w b n f) (z:T) (l:a.eval x=.int .i64 z) (p:aH z)
 (q:ms P ops Q rest (a.put o.dst (.tuple #[.int .i64 ((f z).getD 0),.bool (f z).isSome])) w):ms P ops Q (o::rest) a w:=by
 refine qd c λu r=>?_
 have s:=h.look hk g i p jg;unfold Oper.wp;simp[jY,d,j,l,s,Result.andThen];exact r _ _ q
theorem Lt{he:P.underlying e=ja (.int .i64)}(c:o.guard=jd)(m x:lm)(t:jr)(d:o.op=Op.lookup t m x jw)(hk:P.underlying k=ja (.int .i64))(g:P.underlying t=ja (.map k e))
 (i:(zeroValue e).run P w=.ok (.int .i64 0) w) (b n:I) (f:T->jC T) (j:a.eval m=.map (ja b)) (h:aS (dw he) k w b n f) (z:T) (l:a.eval x=.int .i64 z) (p:aH z)
 (q:ms P ops Q rest (a.put o.dst (.int .i64 ((f z).getD 0))) w):ms P ops Q (o::rest) a w:=by
 refine qd c λu r=>?_
 have s:=h.look hk g i p jw;unfold Oper.wp;simp[jY,d,j,l,s,Result.andThen];exact r _ _ q
theorem nA(d:o.guard=jd)(m x v:lm)(t:jr)(g:o.op=Op.mapUpdate t m x v)(hk:P.underlying k=ja (.int .i64))(i:P.underlying t=ja (.map k e))
 (b n:I) (f:T->jC α) (j:a.eval m=.map (ja b)) (h:aS E k w b n f) (l:n<j0) (z:T) (p:a.eval x=.int .i64 z) (q:aH z) (c:α) (r:a.eval v=E.ev c) (s:E.ok c)
 (u:∀w',aS E k w' b (n+1) (λy=>if y=z then ja c else f y)->w.mapTurned w' b->ms P ops Q rest (a.put o.dst jE) w'):ms P ops Q (o::rest) a w:=by
 refine qd d λF y=>?_
 obtain⟨w',B,C,D⟩:=h.put hk i l q s;unfold Oper.wp;simp[jY,g,j,p,r,B,Result.andThen];exact y _ _ (u w' C D)
theorem GV(c:o.guard=jd)(m x:lm)(t:jr)(d:o.op=Op.call {callee:=Callee.builtin Builtin.delete,args:=#[m,x],argTypes:=#[t,k]})(hk:P.underlying k=ja (.int .i64))(g:P.underlying t=ja (.map k e))
 (b n:I) (f:T->jC α) (i:a.eval m=.map (ja b)) (h:aS E k w b n f) (z:T) (j:a.eval x=.int .i64 z) (l:aH z)
 (p:∀w',aS E k w' b n (λy=>if y=z then jd else f y)->w.mapTurned w' b->ms P ops Q rest (a.put o.dst (.tuple #[])) w'):ms P ops Q (o::rest) a w:=by
 refine qd c λv q=>?_
 obtain⟨w',r,s,u⟩:=h.del hk g l o.type;unfold Oper.wp;simp[jY,d,resolve,invoke,builtin,i,j,r,Result.andThen];exact q _ _ (p w' s u)
end
end
section
open Go.RowKit Go.Shelf Go.Maps Go.Sort
attribute [local go_sem] Oper.semAt_some
theorem Lp{R:jh->jC (DataW H×je MemPlace)}{i:I}{D:DataW H}{left:Lit->jv}{m:I}(h:w.ranges P t R g B i D left m)(c:a.heap[g]?=w.heap[g]?)(d:a.heap[B]?=w.heap[B]?):a.ranges P t R g B i D left m:=by
 obtain⟨e,f,b,n,j,l,w',o,p,q,s⟩:=h;exact⟨e,f,b,n,j,c.trans l,w',o,p,d.trans q,s⟩
theorem Mk{R:jh->jC (DataW H×je MemPlace)}{i:I}{D:DataW H}{left:Lit->jv}{m:I}(h:w.ranges P t R g B i D left m):g<w.heap.size/\B<w.heap.size:=by
 obtain⟨e,f,b,n,j,c,l,a,o,d,p⟩:=h;exact⟨(jO.1 c).1,(jO.1 d).1⟩
theorem bZ.ofGrown{b:jC I}(h:w.grownBy a b)(c:∀k,b=ja k->e k):bZ g e w a:=
 ⟨h.os,h.tape,h.output,h.size,λk hk d=>.inl (h.block k hk (λΨ=>d (c k Ψ.symm)))⟩
theorem CE(a:jC I)(w:jc):
 js ji 184 #[.map a] w λe w'=>e=.returned (.func (.func 233) #[] #[.pointer (ja ⟨w,0,jd⟩)])/\w'=w.alloc (.cells #[.map a] 167):=by
 go_enter func184,ntmps184
 go_wp2
 go_ret;exact⟨N,N⟩
def iZ(f:T->jC T)(xs:je T):Prop:=xs.Nodup/\(∀x∈xs,aH x/\(f x).isSome=jg)/\∀x,aH x->(f x).isSome=jg->x∈xs
theorem LK(b d g n₀:I)(f:T->jC T)(w:jc)(s:aS (dw jP) 3 w b d f)(t:jB w g 167 (.map (ja b)))(H:b<n₀)(h2:g<n₀):
 eo ji 233 #[.pointer (ja ⟨g,0,jd⟩)] (λx:T=>#[.int .i64 x]) (λ_=>False) n₀ (iZ f) (λ_=>True) (λa=>a.length<=d) w:=by
 intro l o Jx W u a Wc j K;have M:jB W g 167 (.map (ja b)):=(u.block g t.lt).trans t;obtain⟨D,z,e⟩:=s.of_block (u.block b s.lt);have c:=z;have P:=c.size_le;have B:=O e;clear e;have p:=M.cell;refine(qn (n:=0)).1 ?_;refine q4 func233 N trivial ?_ N;simp only[ntmps233,jZ,lw,qe,qf,qg,qh,qi,qj,qk,mT,j7]
 gi_wp2_with (first
  |(gi_at_range;refine wpListIn_range_own _ N _ 167 N 3 3 (int_keyed jP) qJ _ b d _ N c ?_;intro w0 C i m)
  |gi_in)
 have Q:=O a;have R:=O j;have S:o [] (λk=>k=W.heap.size) w0:=a [] _ _ W w0 K (bZ.ofGrown i (λk e=>by cases e)) (λ_ h=>h.elim) (λk e=>.inr Y);have Tp:jl (W.heap.size+1=w0.heap.size):=O m.symm;have U:W.heap.size<w0.heap.size:=Y;have a3:=(Mk C).1;have a4:∀k,k<W.heap.size->w0.heap[k]?=W.heap[k]?:=λk hk=>i.block k hk ax
 have a5:b<W.heap.size:=z.lt;clear a j m i p c
 gi_loopw [3] (λ_ wr=>∃(left:Lit->jv) (q:I) (a:je T),wr.ranges ji 3 (plainElem ji 3) b W.heap.size d D left q/\CollectedI D left a/\a.length+q<=d/\o a (λk=>k=W.heap.size) wr/\W.heap.size<wr.heap.size)
  (λ_ wr=>wr.rangeLeft b W.heap.size)
 case atStart=>
  exact⟨_,_,[],C,CollectedI.start D,by simpa using P,S,U⟩
 obtain⟨left,q,a,r,i,ba,E,bb⟩:=hrel
 gi_wp2_with (first
  |(gi_at_next;refine wpListIn_next_ranges _ N _ N 3 (int_keyed jP) (plainElem ji 3) encZ id (λj V hk=>by obtain⟨x,c,_⟩:=Maps.keyOf_i64 jP hk;exact⟨x,c⟩) (λv _ _=>⟨v,N⟩) b W.heap.size d _ _ _ N r ?_ ?_)
  |gi_in)
 ·intro Vd X
  gi_wp2
  refine xq (mb N _ _ _) N ?_;refine⟨⟨_,N⟩,.inl ⟨a,_,?_,E⟩⟩;refine⟨i.1,λx c=>?_,λx c hf=>?_⟩
  ·have h:=((i.2 x).1 c).1
   have m:aH x:=by
    obtain⟨es,rfl,aa⟩:=r.owns.keysOf;rw[has_eq,List.any_eq_true]at h;obtain⟨p,hp,hs⟩:=h;obtain⟨v,F⟩:=aa p hp;obtain⟨y,_,j,hl⟩:=Maps.keyOf_i64 jP F;have e:=WideAt.sameKey_eq hs;rw[e]at j;have:x=y:=by injection j
    rw[this];exact hl
   exact⟨m,by rw[<-(B x m).1];exact h⟩
  exact(i.2 x).2 ⟨by rw[(B x c).1];exact hf,X _⟩
 intro x c V yd yp m X aa Zs F SH ad al UF p bc;obtain⟨x',ex,rfl,_⟩:=Maps.keyOf_i64 jP aa;obtain rfl:x=x':=encZ_inj ex;have au:o a (λk=>k=W.heap.size) m:=Q a _ _ wr m E (bZ.ofGrown UF (λk e=>by cases e;rfl)) (λ_ h=>h) (λ_ h=>.inl h);have bd:W.heap.size<m.heap.size:=Y;have a1:(a++[x]).length<=d:=by simp;omega
 obtain⟨fn,tmps,assign,body,j,v⟩:=R a x _ m au (λk e=>by omega) a1;clear p
 gi_wp2
 refine⟨N,v.mono ?_⟩;rintro e W3 (⟨rfl,Wd,h,p⟩|⟨rfl,YJ,h,p⟩)
 ·have y:=Lp ad (h.block b H) (p _ N)
  have a2:W.heap.size<W3.heap.size:=by have:=h.size;omega
  clear p h v j
  gi_wp2
  go_roundw
  case rel=>exact⟨_,X,a++[x],y,i.step Zs SH,by simp;omega,Wd,a2⟩
  case measure=>rw[y.left_eq,r.left_eq];exact al
 gi_wp2
 refine nz (mb N _ _ _) N ?_;exact⟨⟨_,N⟩,.inr ⟨_,_,trivial,YJ⟩⟩
end
theorem eJ{a:jR}{v:jh}(h:w.cell? a=ja v):a.block<w.heap.size:=by
 unfold j8 at h
 cases hb:w.heap[a.block]? with
 |none=>simp[hb]at h
 |some o=>exact(jO.1 hb).1
theorem bQ{p:jR}{v:jh}(h:w.cell? p=ja v)(a:w'.heap[p.block]?=w.heap[p.block]?):w'.cell? p=ja v:=by
 rw[World.cell?_of_block a];exact h
def bp(w:jc)(v:jh)(t:je (T×T)):Prop:=
 ∃p c,v=ju p t.length c/\t.length<=c/\(p=jd->t.length=0)/\(0<t.length->∃g o,p=ja ⟨g,o,jd⟩/\
  ∀j,j<t.length->w.cell? ⟨g,o+j*2,jd⟩=ja (A jf (t.getD j (0,0)).1)/\w.cell? ⟨g,o+j*2+1,jd⟩=ja (A jf (t.getD j (0,0)).2))/\∀x∈t,aH x.1/\aH x.2
theorem bp.below{v:jh}{t:je (T×T)}(h:bp w v t)(d:jn w w w'):bp w' v t:=by
 obtain⟨p,c,rfl,e,f,i,k⟩:=h;refine⟨p,c,N,e,f,λl=>?_,k⟩;obtain⟨g,o,rfl,m⟩:=i l;refine⟨g,o,N,λj n=>?_⟩;obtain⟨a,b⟩:=m j n;exact⟨bQ a (d.block g (eJ a)),bQ b (d.block g (eJ b))⟩
def aN(t:je (T×T))(x:T):jC T:=(t.find? (λy=>y.1==x)).map (·.2)
theorem Fh(t:je (T×T))(a p x:T):aN (t++[(a,p)]) x=if(aN t a).isSome then aN t x else if x=a then ja p else aN t x:=by
 unfold aN;rw[List.find?_append]
 cases hx:t.find? (λy=>y.1==x)with
 |none=>
  by_cases b:x=a
  ·subst b;simp[hx]
  have:(a==x)=jw:=by simpa using λh=>b h.symm
  simp[b,this,List.find?_cons]
 |some y=>
  by_cases b:x=a
  ·subst b;simp[hx]
  simp[b]
theorem oL(w:jc):(zeroValue 3).run ji w=.ok (A jf 0) w:=by kernel_rfl
theorem wG(t:je (T×T))(v:jh)(w:jc)(Q:bp w v t)(R:t.length<=1000000):
 js ji 108 #[jT #[v]] w λe w'=>∃b,e=jq (.map (ja b))/\w.heap.size<=b/\aS (dw jP) 3 w' b t.length (aN t)/\jn w w w':=by
 obtain⟨p,c,rfl,S,l,i,j⟩:=Q;have g:=@run_makeMap ji
 go_enter func108,ntmps108
 go_wp2_with fail
 have a:jn w w ((w.alloc (jj #[ju p t.length c] 27)).alloc (.map #[] 0)):=((jK _ w).alloc (jA _) _).alloc ax _;have f:aS (dw jP) 3 ((w.alloc (jj #[ju p t.length c] 27)).alloc (.map #[] 0)) (w.heap.size+1) 0 (λ_=>jd):=by
  have h:=aS.made (dw jP) 3 (w.alloc (jj #[ju p t.length c] 27));rw[km]at h;exact h
 obtain⟨W0,d⟩:=J ((w.alloc (jj #[ju p t.length c] 27)).alloc (.map #[] 0));rw[<-d]at a f⊢;clear d g;have U:=O a;have D:=O f;have V:=O i;have W:=O j;obtain⟨n,g⟩:=J t.length;have d:=O g;rw[<-g]at R S⊢;obtain⟨B,k⟩:=J (w.heap.size+1);rw[<-k]at D⊢;have aa:w.heap.size<B:=Y;clear a f i j g l k
 go_loopw [12] (λi wr=>∃k:I,i=A jf k/\k<=n/\jl (aS (dw jP) 3 wr B k (aN (t.take k)))/\jl (jn w w wr)) (λi _=>n-(jy i).toNat)
 case atStart=>exact⟨0,N,p6 _,D,U⟩
 obtain⟨k,rfl,hk,F,m⟩:=hrel
 by_cases q:k<n
 ·have X:=ao ((k:T)<(n:T))
  have Sm:=ao (k<n);obtain⟨g,o,rfl,u⟩:=V.out (by rw[<-d];omega);obtain⟨i,j⟩:=u k (by rw[<-d];exact q);have f:=m.out;have H:=bQ i (f.block g (eJ i));have K:=bQ j (f.block g (eJ j));obtain⟨e,he⟩:=J (t.getD k (0,0));rw[<-he]at H K;have x:e∈t:=by
   rw[he];simp only[jW];rw[qX (by rw[<-d];exact q)];simp
  obtain⟨l,r⟩:=W e x;obtain⟨a,s⟩:=e;dsimp only at H K l r;have HE:=O he;have z:=O l;have H2:=O r;clear f i j u he x l r;have M:=O (show t.take (k+1)=t.take k++[(a,s)] by
   rw[HE,xQ (by rw[<-d];exact q)];simp only[jW];rw[qX (by rw[<-d];exact q)];rfl)
  have u:=O (F.alloc (jj #[A jf a,A jf s] 148));have C:=O (m.alloc m.size (jj #[A jf a,A jf s] 148))
  rcases xR (aN (t.take k) a)with i|⟨y,i⟩
  ·have l:=O i
   clear i
   go_wp2_with (first
    |(at_lookup;refine tO (he:=jP) N _ _ 167 N jP qJ (oL _) B k _ N u a N z ?_;rw[l])
    |(at_mapUpdate;refine nA (E:=dw jP) N _ _ _ 167 N jP qJ B k _ N u (by unfold j0;omega) a N z s N H2 ?_;intro r x P))
   have Ta:=O x;have f:=O (C.grown P.grown C.size (λj hj=>by cases hj;omega));clear x P;refine⟨⟨k+1,by go_num,by omega,O ?_,f⟩,by simp only[jy];omega⟩;refine Ta.congr λx j=>?_
   rw[M,Fh,l]
   rfl
  have l:=O i;clear i
  go_wp2_with (at_lookup;refine tO (he:=jP) N _ _ 167 N jP qJ (oL _) B k _ N u a N z ?_;rw[l])
  refine⟨⟨k+1,by go_num,by omega,O ?_,C⟩,by simp only[jy];omega⟩;refine(u.mono (Nat.le_succ _)).congr λx j=>?_
  rw[M,Fh,l]
  rfl
 have X:=ap ((k:T)<(n:T));have Sm:=ap (k<n);obtain rfl:k=n:=Y
 go_wp2
 go_ret;refine⟨B,N,by omega,?_,m⟩;have h:=F.out;rw[d,List.take_length]at h;exact h
section
variable {P:jI}
theorem DV{α:Type}{g:lm}{m:jt Tmp}{assign body:j4}{o:jV->Act->jc->Prop}{a:Act}{w:jc}{n:I}
 {gf:I} {lb:jt jh} (y:a.eval g=.func (.func gf) #[] lb) (z:∀args w,(qz gf args).run P w=.ok (.enter gf args) w)
 {encs:α->jt jh} {q:I->Prop} {n₀:I} {S u V:je α->Prop} (B:eo P gf lb encs q n₀ S u V w)
 (C:n₀<=w.heap.size) (E:∀x,(encs x).size=m.size) (F:∀k,q k->k<w.heap.size)
 (e:je α->(I->Prop)->jc->Prop) (h:j4->je α->(I->Prop)->jc->Prop) (H:b6 w.heap.size e) (M:∀c,b6 w.heap.size (h c)) (Q:e [] q w)
 (i:α->Act->(I->Prop)->jc->Prop) (R:b6 w.heap.size (fun(s:α×Act) Ψ W=>i s.1 s.2 Ψ W))
 (s:∀(l:I) (d:je α) (x:α) (Ψ:I->Prop) (b:jc) (K:Act->jc->Prop),e d Ψ b->V (d++[x])->
  (∀f j,jn b b j->e d Ψ j->i x f Ψ j->K f j)->
  assign.wpIn (Fence.wide.inRound l) 0 P (Exit.then K (λ_ _ _=>False)) {tmps:=(m.zip (encs x)).foldl (λt (p,v)=>t.setIfInBounds p v) a.tmps,defers:=[]} b)
 (p:∀(l:I) (d:je α) (x:α) (Ψ:I->Prop) (f:Act) (b:jc),e d Ψ b->i x f Ψ b->V (d++[x])->(∀k,Ψ k->k<b.heap.size)->w.heap.size+2<=b.heap.size->(∃r,b.heap[l]?=ja (.loop r))->
  body.wpIn (Fence.wide.inRound l) 0 P (vM w.heap.size n₀ e h (d++[x]) Ψ b) f b)
 (t:∀(D:I) (xs:je α) (Ψ:I->Prop) (W:jc),D=w.heap.size->S xs->e xs Ψ W->W.heap[D]?=ja (.deferred (ja []))->o .normal {a with defers:={target:=.collected D,args:=#[]}::a.defers} W)
 (v:∀(D:I) (c:j4) (d:je α) (Ψ:I->Prop) (W:jc),D=w.heap.size->u d->h c d Ψ W->W.heap[D]?=ja (.deferred (ja []))->c.wpIn Fence.wide n P o {a with defers:={target:=.collected D,args:=#[]}::a.defers} W):
 (Code.rangeFunc g m assign body).wpIn Fence.wide n P o a w:=
 zh y z B.v C E F e h H (λ_ _ _ _=>trivial) M Q i R (λl d x Ψ b K j _ c _ hk=>s l d x Ψ b K j c hk) (λl d x Ψ f b j D c K U W X k=>p l d x Ψ f b j D (let⟨_,_,c⟩:=c;c) K U (let⟨r,k⟩:=k;⟨r,by rw[W];exact k⟩)) t v
end
section
open Go.RowKit Go.Shelf
attribute [local go_sem] Oper.semAt_some
def cg(f:T->jC T):I->I->je T
 |0,n=>if(f n).isSome then [(n:T)]else []
 |h+1,n=>if(f n).isSome then [(n:T)]else cg f h (2*n)++cg f h (2*n+1)
theorem QE{f:T->jC T}{h n:I}(a:(f n).isSome=jg):cg f h n=[(n:T)]:=by
 cases h<;>simp[cg,a]
theorem rt(f:T->jC T):∀h n,(cg f h n).length<=2^h
 |0,n=>by simp only[cg];split<;>simp
 |h+1,n=>by
  simp only[cg]
  split
  ·simp;exact xS
  have a:=rt f h (2*n);have b:=rt f h (2*n+1);rw[qv,mF];omega
theorem ya(a:jC I)(n:T)(w:jc):
 js ji 168 #[.map a,A jf n] w λe w'=>
  e=jq (.func (.func 213) #[] #[jG (ja ⟨w,0,jd⟩),jG (ja ⟨w.heap.size+1,0,jd⟩)])/\w'=(w.alloc (jj #[.map a] 167)).alloc (jj #[A jf n] 3):=by
 go_enter func168,ntmps168
 go_wp2
 go_ret;exact⟨N,N⟩
theorem Lc(a b:T)(w:jc):(Instr.index 257 (jT #[A jf a,A jf b]) (A jf 0)).run ji w=.ok (A jf a) w:=by kernel_rfl
theorem NH(a b:T)(w:jc):(Instr.index 257 (jT #[A jf a,A jf b]) (A jf 1)).run ji w=.ok (A jf b) w:=by kernel_rfl
theorem FT(B0 b:I)(o:Obj)(j:b<B0):b6 B0 (fun(_:H) Ψ W=>W.heap[b]?=ja o/\¬Ψ b):=by
 rintro s Ψ d k B ⟨a,e⟩ f l g;have i:=(jO.1 a).1;have c:¬d b:=λh=>by rcases g _ h with h|h;exact e h;omega
 refine⟨?_,c⟩
 rcases f.block b i c with h|⟨h,_⟩
 ·exact h.trans a
 omega
theorem b6.later{c:H->(I->Prop)->jc->Prop}(h:b6 g c)(n:g<=B):b6 B c:=λs Ψ d e b f a i j=>
 h s Ψ d e b f ⟨a.os,a.tape,a.output,a.size,λk hk l=>by
  rcases a.block k hk l with B0|⟨B0,m⟩
  ·exact .inl B0
  exact .inr ⟨by omega,m⟩⟩ i j
theorem DG{e:jr}{α:Type}(E:EKind P e α)(B0 b n:I)(f:T->jC α)(l:b<B0):b6 B0 (fun(_:H) Ψ W=>aS E t W b n f/\¬Ψ b):=by
 rintro s Ψ d m B ⟨a,g⟩ i o j;have c:¬d b:=λh=>by rcases j _ h with h|h;exact g h;have:=a.lt;omega
 refine⟨a.of_block ?_,c⟩
 rcases i.block b a.lt c with h|⟨h,_⟩
 ·exact h
 omega
def kG{α:Type}(b:I)(c:je I)(d:je α)(e:je α->(I->Prop)->jc->Prop)(f:je α)(Ψ:I->Prop)(W:jc):Prop:=
 ∃a,e (d++f) a W/\(∀k,Ψ k->k<W.heap.size->a k)/\(∀k,a k->k<W.heap.size)/\(∀k,k=b\/k=b+1->k<W.heap.size->a k)/\∀k∈c,a k
theorem tX(m:je H){e:je H->(I->Prop)->jc->Prop}(n:b6 g e):b6 g (kG B h m e):=by
 rintro t Ψ u b j ⟨f,o,B0,p,q,r⟩ a v i;have w:=a.size;refine⟨λk=>f k\/(b.heap.size<=k/\k<j.heap.size),?_,λk hk c=>?_,λk hk=>?_,λk hk c=>?_,λk hk=>.inl (r k hk)⟩
 ·refine n _ f _ b j o ⟨a.os,a.tape,a.output,a.size,λk hk d=>?_⟩ (λk hk=>.inl hk) (λk hk=>hk.imp id (·.1))
  refine a.block k hk (λs=>d (.inl ?_))
  rcases i k s with l|l
  ·exact B0 k l hk
  omega
 ·by_cases d:k<b.heap.size
  ·rcases i k hk with l|l
   ·exact .inl (B0 k l d)
   omega
  exact .inr ⟨by omega,c⟩
 ·rcases hk with l|l
  ·have:=p k l;omega
  exact l.2
 by_cases d:k<b.heap.size
 ·exact .inl (q k hk d)
 exact .inr ⟨by omega,c⟩
def lW{α:Type}(b:je I)(c:je α->(I->Prop)->jc->Prop)(d:je α)(W:jc):Prop:=
 ∃a,c d a W/\(∀k,a k->k<W.heap.size)/\∀k∈b,a k
theorem lW.wide{d:je H->(I->Prop)->jc->Prop}{B0:je H}(f:lW h d B0 w)(m:b6 g d){Ψ:I->Prop}(c:bZ g Ψ w a)(i:∀k,Ψ k->w.heap.size<=k)(r:a.heap.size<=B):kG B h B0 d [] Ψ a:=by
 obtain⟨j,n,o,p⟩:=f;have s:=c.size;refine⟨λk=>j k\/(w.heap.size<=k/\k<a.heap.size),?_,λk hk l=>.inr ⟨i k hk,l⟩,λk hk=>?_,λk hk l=>by omega,λk hk=>.inl (p k hk)⟩
 ·rw[sx]
  refine m _ j _ w a n ⟨c.os,c.tape,c.output,c.size,λk hk t=>?_⟩ (λk hk=>.inl hk) (λk hk=>hk.imp id (·.1));exact c.block k hk (λq=>by have:=i k q;omega)
 rcases hk with f|f
 ·have:=o k f;omega
 exact f.2
theorem kG.own{b:je H->(I->Prop)->jc->Prop}{c xs:je H}(a:kG g h c b xs e w):lW h b (c++xs) w:=by
 obtain⟨Ψ,f,j,d,k,i⟩:=a;exact⟨Ψ,f,d,i⟩
theorem lW.turns{b:je H->(I->Prop)->jc->Prop}{d:je H}(c:lW h b d w)(B0:b6 g b)(f:bZ g (λ_=>False) w a):lW h b d a:=by
 obtain⟨i,j,l,m⟩:=c;have n:=f.size;exact⟨i,B0.keep j ⟨f.os,f.tape,f.output,f.size,λk hk _=>f.block k hk (λc=>c)⟩,λk hk=>by have:=l k hk;omega,m⟩
def pQ(f:T->jC T)(b d:I)(h n:I):Prop:=
 ∀(a c n₀:I) (w:jc),aS (dw jP) 3 w b d f->b<n₀->jB w a 167 (.map (ja b))->jB w c 3 (A jf (n:T))->n₀<=w.heap.size->
  eo ji 213 #[jG (ja ⟨a,0,jd⟩),jG (ja ⟨c,0,jd⟩)] (λx:T=>#[A jf x]) (λk=>k=a\/k=c) n₀ (λxs=>xs=cg f h n) (λ_=>True) (λe=>e<+:cg f h n) w
theorem Eo(f:T->jC T)(b Q h n:I)(h1:512<=n*2^h)(h2:n*2^h<1024)(b3:1<=n)(b4:n<1024)(hz:n<512->∃t,h=t+1/\pQ f b Q t (2*n)/\pQ f b Q t (2*n+1))(bc:512<=n->h=0):pQ f b Q h n:=by
 intro d g n₀ w a bd c e V8 l R1 Jx W hW hJ Wc hY h0;have bf:=a.of_block (hW.block b a.lt);have bg:jB W d 167 (.map (ja b)):=(hW.block d c.lt).trans c;have bh:jB W g 3 (A jf (n:T)):=(hW.block g e.lt).trans e;clear a c e;have cm:=(bg.alloc (jj #[.func (.yield l) #[] #[]] 88)).cell;have cn:=(bh.alloc (jj #[.func (.yield l) #[] #[]] 88)).cell;have hI:aH (n:T):=aH.of Y;have Zs:=(bf.alloc (jj #[.func (.yield l) #[] #[]] 88)).look jP qJ (oL _) hI jg
 rcases xR (f n)with hf|⟨p,hf⟩
 ·rw[hf]at Zs
  have bC:(Instr.lookup 167 (.map (ja b)) (A jf (n:T)) jg).run ji (W.alloc (jj #[.func (.yield l) #[] #[]] 88))=.ok (jN #[A jf 0,.bool jw]) (W.alloc (jj #[.func (.yield l) #[] #[]] 88)):=Zs;clear Zs;have HF:=O hf;have HJ:=O hJ;have a2:=O Wc;have HY:=O hY;have e:=O bf;have i:=O h0;clear hf hJ Wc hY bf h0
  by_cases h5:512<=n
  ·have hd:=ao ((512:T)<=(n:T))
   have Sm:=ao (512<=n);obtain rfl:=bc h5;have a:jl (cg f 0 n=[]):=O (by simp[cg,HF.out]);clear hz bc;refine(qn (n:=0)).1 ?_;refine q4 qK N trivial ?_ N;simp only[ntmps213,jZ,lw,qe,qf,qg,qh,qi,qj,qk,mT,j7]
   gi_wp2
   refine nz (mb N _ _ _) N ?_;rw[a];exact⟨⟨_,N⟩,.inl ⟨_,HJ.keep i (bZ.alloc _ _ _ _)⟩⟩
  have hd:=ap ((512:T)<=(n:T));have Sm:=ap (512<=n);obtain⟨t,rfl,o,q⟩:=hz Y;refine(qn (n:=0)).1 ?_;refine xr qK N trivial ?_ N;simp only[ntmps213,jZ,lw,qe,qf,qg,qh,qi,qj,qk,mT,j7]
  gi_wp2_with fail
  have UM:jl (cg f (t+1) n=cg f t (2*n)++cg f t (2*n+1)):=O (by simp[cg,HF.out]);have r:∀k,k<2->pQ f b Q t (2*n+k):=λk hk=>by
   rcases(show k=0\/k=1 by omega)with rfl|rfl
   ·exact o
   exact q
  have VF:=O r;obtain⟨a,c⟩:=J (W.alloc (jj #[.func (.yield l) #[] #[]] 88));obtain⟨m,j⟩:=J W.heap.size;have H:jB a d 167 (.map (ja b)):=by rw[c];exact bg.alloc _
  have R:jB a g 3 (A jf (n:T)):=by rw[c];exact bh.alloc _
  have S:jB a m 88 (.func (.yield l) #[] #[]):=by rw[c,j];exact Boxed.new _ _ _
  have s:aS (dw jP) 3 a b Q f:=by rw[c];exact e.alloc _
  have b5:b<W.heap.size:=e.lt;have ca:w.heap.size<=W.heap.size:=hW.size;have cb:W.heap.size+1<=a.heap.size:=by rw[c];simp
  have u:lW [d,g,m] R1 [] a:=by
   have hs:=(bZ.alloc W.heap.size (λk=>k=d\/k=g\/k=m) W (jj #[.func (.yield l) #[] #[]] 88));rw[<-c]at hs;refine⟨λk=>k=d\/k=g\/k=m,HJ _ _ _ W a i hs (λk hk=>by rcases hk with h|h<;>simp[h]) (λk hk=>?_),λk hk=>?_,by simp⟩
   ·rcases hk with h|h|h
    ·exact .inl (.inl h)
    ·exact .inl (.inr h)
    exact .inr Y
   have v:=H.lt;have x:=R.lt;have y:=S.lt
   rcases hk with rfl|rfl|rfl<;>assumption
  rw[<-c,<-j];have HO:=O u;have U:=O s;have cc:W.heap.size<=m:=Y;clear bC cm cn c o q r hz bc i e bg bh u s j;refine wpIn_loop_rounds 3 ?_;rw[roundsIn_succ];have cm:=H.cell;have bI:=λW=>Lc (2*(n:T)) (2*(n:T)+1) W
  gi_wp2_with fail
  refine⟨trivial,N,(callsIn_wide.2 (ya _ _ _)).mono ?_⟩;rintro e w' ⟨rfl,rfl⟩
  gi_wp2_with fail
  obtain⟨s,c⟩:=J ((a.alloc (jj #[.map (ja b)] 167)).alloc (jj #[A jf (2*(n:T))] 3));have bk:jB s a.heap.size 167 (.map (ja b)):=by rw[c];exact(Boxed.new a _ _).alloc _
  have a3:((2*n:I):T)=2*(n:T):=by simp
  have bl:jB s (a.heap.size+1) 3 (A jf ((2*n:I):T)):=by
   have h:=Boxed.new (a.alloc (jj #[.map (ja b)] 167)) 3 (A jf (2*(n:T)));rw[km]at h;rw[a3,c];exact h
  have bK:a.heap.size+2=s.heap.size:=by rw[c];simp
  have a4:bZ W.heap.size (λk=>k=a.heap.size\/k=a.heap.size+1) a s:=by
   rw[c];refine⟨N,N,N,by simp;omega,λk hk _=>.inl ?_⟩;rw[jH _ _ _ (by simp;omega),jH _ _ _ hk]
  have F:jn a a s:=by rw[c];exact((jK _ a).alloc (jA _) _).alloc ax _
  have bm:kG s.heap.size [d,g,m] [] R1 [] (λk=>k=a.heap.size\/k=a.heap.size+1) s:=HO.wide HJ a4 (by rintro k (rfl|rfl)<;>omega) (jA _);have bn:jB s d 167 (.map (ja b)):=(F.block _ H.lt).trans H;have bo:jB s g 3 (A jf (n:T)):=(F.block _ R.lt).trans R;have bq:jB s m 88 (.func (.yield l) #[] #[]):=(F.block _ S.lt).trans S;have au:aS (dw jP) 3 s b Q f:=U.below F U.lt;have bM:=U.lt;have bN:=H.lt;have bO:=R.lt;have bT:=S.lt;have a1:W.heap.size<=s.heap.size:=Y;have a5:=VF 0 G a.heap.size (a.heap.size+1) n₀ s au bd bk bl Y;have br:=O a5;rw[<-c];clear a5 a3 c a4 F HO U;refine DV (n:=0) (gf:=213) (lb:=#[jG (ja ⟨a,0,jd⟩),jG (ja ⟨a.heap.size+1,0,jd⟩)]) N (enters_of qK ag N)
   br Y (λ_=>rfl) (by rintro k (rfl|rfl)<;>omega)
   (λu Ψ W=>kG s.heap.size [d,g,m] [] R1 u Ψ W/\(jB W d 167 (.map (ja b))/\¬Ψ d)/\(jB W g 3 (A jf (n:T))/\¬Ψ g)/\(jB W m 88 (.func (.yield l) #[] #[])/\¬Ψ m)/\(aS (dw jP) 3 W b Q f/\¬Ψ b))
   (λc u Ψ W=>c=.ret/\kG s.heap.size [d,g,m] [] Jx u Ψ W)
   ((tX [] (HJ.later a1)).and ((iy _ _ _ (λ_=>_)).and ((iy _ _ _ (λ_=>_)).and ((iy _ _ _ (λ_=>_)).and (DG _ _ _ _ _ Y)))))
   (λc=>(fA _ _).and (tX [] (a2.later a1)))
   ⟨bm,⟨bn,by omega⟩,⟨bo,by omega⟩,⟨bq,by omega⟩,⟨au,by omega⟩⟩
   (λx ba _ _=>ba={tmps:=#[.func (.yield l) #[] #[],jG (ja ⟨d,0,jd⟩),jG (ja ⟨g,0,jd⟩),jG (ja ⟨m,0,jd⟩),A jf 0,.bool jw,jE,A jf (2*(n:T)),A jf x,jN #[A jf 0,.bool jw],.map (ja b),A jf (n:T),jN #[A jf 0,.bool jw],A jf 0,.bool jw,.bool jw,jE,jE,jE,A jf (n:T),.bool jw,A jf (n:T),A jf (2*(n:T)),A jf (n:T),A jf (2*(n:T)),A jf (2*(n:T)+1),jT #[A jf (2*(n:T)),A jf (2*(n:T)+1)],A jf 0,.bool jg,A jf (2*(n:T)),.map (ja b),A jf (2*(n:T)),.func (.func 213) #[] #[jG (ja ⟨a,0,jd⟩),jG (ja ⟨a.heap.size+1,0,jd⟩)],A jf x,jE,jE,jE,jE,jE],defers:=[]}) (fA _ _)
   ?assign0 ?body0 ?done0 ?stop0
  case assign0=>
   intro l2 u x Ψ bb K hI _ q
   gi_wp2
   exact q _ _ (jK _ _) hI N
  case body0=>
   rintro l2 u x Ψ ba bb ⟨aa,⟨o,nm⟩,⟨y,bs⟩,⟨j,ny⟩,⟨bu,nk⟩⟩ rfl hV Yo b0 Zr;obtain⟨v,z,g2,M,g4,P⟩:=aa;obtain⟨fn,tmps,assign,body,hy,V⟩:=HY ([]++u) x v bb z M (by rw[UM];rw[mT];exact hV.trans (List.prefix_append _ _));have cy:=j.cell;have X:=O g2;have Ve:=O M;have B:=O g4;have C:=O P;have T4:=O Yo;clear z g2 M g4 P Yo hV Zr
   gi_wp2
   refine⟨N,RoundIn.mono V ?_⟩;rintro e W3 (⟨rfl,Wd,r,E⟩|⟨rfl,YJ,r,E⟩)
   ·have ad:=r.size
    have i:=O E;have RI:=O r;clear E r V hy cy
    gi_wp2
    refine⟨⟨⟨i _ (B _ (.inl N) Y),i _ (B _ (.inr N) Y)⟩,RI,λk hk=>i k (X k hk (T4 k hk))⟩,
     ⟨v,by rw[<-oj];exact Wd,λk hk _=>X k hk (T4 k hk),λk hk=>ql (Ve k hk) ad,λk hk _=>B k hk Y,C⟩,
     ⟨(i _ (C d ax)).trans o,nm⟩,⟨(i _ (C g ax)).trans y,bs⟩,⟨(i _ (C m ax)).trans j,ny⟩,⟨bu.of_block (RI.block b bd),nk⟩⟩
   have ad:=r.size;have i:=O E;have RI:=O r;clear E r V hy cy
   gi_wp2
   refine⟨⟨⟨i _ (B _ (.inl N) Y),i _ (B _ (.inr N) Y)⟩,RI,λk hk=>i k (X k hk (T4 k hk))⟩,N,
    ⟨v,by rw[<-oj];exact YJ,λk hk _=>X k hk (T4 k hk),λk hk=>ql (Ve k hk) ad,λk hk _=>B k hk Y,C⟩⟩
  case stop0=>
   rintro D c u Ψ j rfl -⟨rfl,bv⟩ q;obtain⟨v,z,-,-,-,-⟩:=bv
   gi_wp2
   refine⟨by simp,.inl ⟨_,_,N,qo q,?_⟩⟩;exact⟨_,mb N _ _ _,⟨_,N⟩,.inr ⟨_,v,trivial,a2.keep z (bZ.putObj _ q N Y)⟩⟩
  rintro D xs Ψ j rfl rfl ⟨aa,⟨bw,nm⟩,⟨bA,b1⟩,⟨bB,ny⟩,⟨al,nk⟩⟩ q
  gi_wp2_with fail
  obtain⟨v,z,g2,M,g4,P⟩:=aa;have b2:=(jO.1 q).1;obtain⟨y,o⟩:=J s.heap.size;rw[<-o]at q b2⊢;have HO:jl (lW [d,g,m,y] R1 (cg f t (2*n)) j):=O ⟨v,by simpa using z,M,λk hk=>by
   simp only[List.mem_cons,List.not_mem_nil,or_false]at hk
   rcases hk with h|h|h|h
   ·exact P k (by simp[h])
   ·exact P k (by simp[h])
   ·exact P k (by simp[h])
   exact g4 k (.inl (h.trans o)) Y⟩
  have Z5:=O q;have U:=O al;have cd:W.heap.size<=y:=Y;have ce:b<y:=Y;have VQ:W.heap.size<=j.heap.size:=Y;clear z g2 M g4 P q H R S al nm b1 ny nk bM bN bO bT bm bn bo bq au bk bl br bK a1 o cm bI;have H:=bw;have R:=bA;have S:=bB;clear bw bA bB;rw[roundsIn_succ];have cm:=H.cell;have bI:=λW=>NH (2*(n:T)) (2*(n:T)+1) W
  gi_wp2_with fail
  refine⟨trivial,N,(callsIn_wide.2 (ya _ _ _)).mono ?_⟩;rintro e w' ⟨rfl,rfl⟩
  gi_wp2_with fail
  obtain⟨o,al⟩:=J ((j.alloc (jj #[.map (ja b)] 167)).alloc (jj #[A jf (2*(n:T)+1)] 3));have bk:jB o j.heap.size 167 (.map (ja b)):=by rw[al];exact(Boxed.new j _ _).alloc _
  have a3:((2*n+1:I):T)=2*(n:T)+1:=by simp
  have bl:jB o (j.heap.size+1) 3 (A jf ((2*n+1:I):T)):=by
   have h:=Boxed.new (j.alloc (jj #[.map (ja b)] 167)) 3 (A jf (2*(n:T)+1));rw[km]at h;rw[a3,al];exact h
  have bK:j.heap.size+2=o.heap.size:=by rw[al];simp
  have a4:bZ W.heap.size (λk=>k=j.heap.size\/k=j.heap.size+1) j o:=by
   rw[al];refine⟨N,N,N,by simp;omega,λk hk _=>.inl ?_⟩;rw[jH _ _ _ (by simp;omega),jH _ _ _ hk]
  have F:jn j j o:=by rw[al];exact((jK _ j).alloc (jA _) _).alloc ax _
  have bm:kG o.heap.size [d,g,m,y] (cg f t (2*n)) R1 [] (λk=>k=j.heap.size\/k=j.heap.size+1) o:=HO.wide HJ a4 (by rintro k (rfl|rfl)<;>omega) (jA _);have bn:jB o d 167 (.map (ja b)):=(F.block _ H.lt).trans H;have bo:jB o g 3 (A jf (n:T)):=(F.block _ R.lt).trans R;have bq:jB o m 88 (.func (.yield l) #[] #[]):=(F.block _ S.lt).trans S;have au:aS (dw jP) 3 o b Q f:=U.below F U.lt;have bM:=U.lt;have bN:=H.lt;have bO:=R.lt;have bT:=S.lt;have b1:o.heap[y]?=ja (.deferred (ja [])):=(F.block _ (jO.1 Z5).1).trans Z5;have cf:=(jO.1 Z5).1;have a1:W.heap.size<=o.heap.size:=Y;have a5:=VF 1 G j.heap.size (j.heap.size+1) n₀ o au bd bk bl Y;have br:=O a5;rw[<-al];clear a5 a3 al a4 F HO U Z5;refine DV (n:=0) (gf:=213) (lb:=#[jG (ja ⟨j,0,jd⟩),jG (ja ⟨j.heap.size+1,0,jd⟩)]) N (enters_of qK ag N)
   br Y (λ_=>rfl) (by rintro k (rfl|rfl)<;>omega)
   (λu Ψ W=>kG o.heap.size [d,g,m,y] (cg f t (2*n)) R1 u Ψ W/\(jB W d 167 (.map (ja b))/\¬Ψ d)/\(jB W g 3 (A jf (n:T))/\¬Ψ g)/\(jB W m 88 (.func (.yield l) #[] #[])/\¬Ψ m)/\(aS (dw jP) 3 W b Q f/\¬Ψ b)/\(W.heap[y]?=ja (.deferred (ja []))/\¬Ψ y))
   (λc u Ψ W=>c=.ret/\kG o.heap.size [d,g,m,y] (cg f t (2*n)) Jx u Ψ W/\(W.heap[y]?=ja (.deferred (ja []))/\¬Ψ y))
   ((tX (cg f t (2*n)) (HJ.later a1)).and ((iy _ _ _ (λ_=>_)).and ((iy _ _ _ (λ_=>_)).and ((iy _ _ _ (λ_=>_)).and ((DG _ _ _ _ _ Y).and (FT _ _ _ Y))))))
   (λc=>(fA _ _).and ((tX (cg f t (2*n)) (a2.later a1)).and (FT _ _ _ Y)))
   ⟨bm,⟨bn,by omega⟩,⟨bo,by omega⟩,⟨bq,by omega⟩,⟨au,by omega⟩,b1,by omega⟩
   (λx ba _ _=>ba={tmps:=#[.func (.yield l) #[] #[],jG (ja ⟨d,0,jd⟩),jG (ja ⟨g,0,jd⟩),jG (ja ⟨m,0,jd⟩),A jf 0,.bool jw,jE,A jf (2*(n:T)+1),A jf x,jN #[A jf 0,.bool jw],.map (ja b),A jf (n:T),jN #[A jf 0,.bool jw],A jf 0,.bool jw,.bool jw,jE,jE,jE,A jf (n:T),.bool jw,A jf (n:T),A jf (2*(n:T)),A jf (n:T),A jf (2*(n:T)),A jf (2*(n:T)+1),jT #[A jf (2*(n:T)),A jf (2*(n:T)+1)],A jf 1,.bool jg,A jf (2*(n:T)+1),.map (ja b),A jf (2*(n:T)+1),.func (.func 213) #[] #[jG (ja ⟨j,0,jd⟩),jG (ja ⟨j.heap.size+1,0,jd⟩)],A jf x,jE,jE,jE,jE,A jf 1],defers:=[]}) (fA _ _)
   ?assign1 ?body1 ?done1 ?stop1
  case assign1=>
   intro l2 u x Ψ bb K hI _ q
   gi_wp2
   exact q _ _ (jK _ _) hI N
  case body1=>
   rintro l2 u x Ψ ba bb ⟨aa,⟨al,nm⟩,⟨a3,bs⟩,⟨U,ny⟩,⟨bu,nk⟩,F,K⟩ rfl hV Yo b0 Zr;obtain⟨v,z,g2,M,g4,P⟩:=aa;obtain⟨fn,tmps,assign,body,hy,V⟩:=HY ((cg f t (2*n))++u) x v bb z M (by rw[UM];rw[oj];exact(List.prefix_append_right_inj _).2 hV);have cy:=U.cell;have X:=O g2;have Ve:=O M;have B:=O g4;have C:=O P;have T4:=O Yo;clear z g2 M g4 P Yo hV Zr
   gi_wp2
   refine⟨N,RoundIn.mono V ?_⟩;rintro e W3 (⟨rfl,Wd,r,E⟩|⟨rfl,YJ,r,E⟩)
   ·have ad:=r.size
    have i:=O E;have RI:=O r;clear E r V hy cy
    gi_wp2
    refine⟨⟨⟨i _ (B _ (.inl N) Y),i _ (B _ (.inr N) Y)⟩,RI,λk hk=>i k (X k hk (T4 k hk))⟩,
     ⟨v,by rw[<-oj];exact Wd,λk hk _=>X k hk (T4 k hk),λk hk=>ql (Ve k hk) ad,λk hk _=>B k hk Y,C⟩,
     ⟨(i _ (C d ax)).trans al,nm⟩,⟨(i _ (C g ax)).trans a3,bs⟩,⟨(i _ (C m ax)).trans U,ny⟩,⟨bu.of_block (RI.block b bd),nk⟩,(i _ (C y ax)).trans F,K⟩
   have ad:=r.size;have i:=O E;have RI:=O r;clear E r V hy cy
   gi_wp2
   refine⟨⟨⟨i _ (B _ (.inl N) Y),i _ (B _ (.inr N) Y)⟩,RI,λk hk=>i k (X k hk (T4 k hk))⟩,N,
    ⟨⟨v,by rw[<-oj];exact YJ,λk hk _=>X k hk (T4 k hk),λk hk=>ql (Ve k hk) ad,λk hk _=>B k hk Y,C⟩,(i _ (C y ax)).trans F,K⟩⟩
  case stop1=>
   rintro D c u Ψ x rfl -⟨rfl,bv,F,K⟩ q;obtain⟨v,z,-,-,-,-⟩:=bv
   gi_wp2
   refine⟨by simp,.inl ⟨_,_,N,qo q,?_⟩⟩;have i:(x.putObj o.heap.size (.deferred jd)).heap[y]?=ja (.deferred (ja [])):=(mz Y).trans F;refine⟨by simp,.inl ⟨_,_,N,qo i,?_⟩⟩;exact⟨_,mb N _ _ _,⟨_,N⟩,.inr ⟨_,v,trivial,a2.keep (a2.keep z (bZ.putObj _ q N Y)) (bZ.putObj _ i N Y)⟩⟩
  rintro D xs Ψ x rfl rfl ⟨aa,⟨bw,nm⟩,⟨bA,bs⟩,⟨bB,ny⟩,⟨bu,nk⟩,F,K⟩ q;obtain⟨v,z,-,-,-,-⟩:=aa
  gi_wp2_with fail
  rw[roundsIn_succ]
  gi_wp2
  have i:(x.putObj o.heap.size (.deferred jd)).heap[y]?=ja (.deferred (ja [])):=(mz Y).trans F;refine⟨by simp,.inl ⟨_,_,N,qo q,?_⟩⟩;refine⟨by simp,.inl ⟨_,_,N,qo i,?_⟩⟩;exact⟨_,mb N _ _ _,⟨_,N⟩,.inl ⟨_,v,UM.symm,HJ.keep (HJ.keep z (bZ.putObj _ q N Y)) (bZ.putObj _ i N Y)⟩⟩
 rw[hf]at Zs;have bC:(Instr.lookup 167 (.map (ja b)) (A jf (n:T)) jg).run ji (W.alloc (jj #[.func (.yield l) #[] #[]] 88))=.ok (jN #[A jf p,.bool jg]) (W.alloc (jj #[.func (.yield l) #[] #[]] 88)):=Zs;have hs:=QE (f:=f) (h:=h) (n:=n) (by rw[hf];rfl);have a:R1 [] (λk=>k=d\/k=g) (W.alloc (jj #[.func (.yield l) #[] #[]] 88)):=hJ.keep h0 (bZ.alloc _ _ _ _);obtain⟨fn,tmps,assign,body,hy,V⟩:=hY [] (n:T) _ _ a (by rintro k (rfl|rfl);have:=bg.lt;simp;omega;have:=bh.lt;simp;omega) (by rw[hs];exact List.prefix_refl _);have c:=O hs;clear Zs hs hz bc bf hJ Wc hY h0 hf a;refine(qn (n:=0)).1 ?_;refine q4 qK N trivial ?_ N;simp only[ntmps213,jZ,lw,qe,qf,qg,qh,qi,qj,qk,mT,j7]
 gi_wp2
 refine⟨N,V.mono ?_⟩;rintro e W3 (⟨rfl,Wd,r,E⟩|⟨rfl,YJ,r,E⟩)
 ·gi_wp2
  refine nz (mb N _ _ _) N ?_;exact⟨⟨_,N⟩,.inl ⟨_,_,c.symm,Wd⟩⟩
 gi_wp2
 refine nz (mb N _ _ _) N ?_;exact⟨⟨_,N⟩,.inr ⟨_,_,trivial,YJ⟩⟩
theorem zi(f:T->jC T)(b d:I):∀h n,512<=n*2^h->n*2^h<1024->pQ f b d h n
 |0,n,c,a=>Eo f b d 0 n c a Y Y (λh=>by omega) (λ_=>rfl)
 |h+1,n,c,a=>by
  rw[mF]at c a;have e:2*n*2^h=n*(2^h*2):=by rw[j6 2 n,qD,j6 2]
  have i:(2*n+1)*2^h=n*(2^h*2)+2^h:=by rw[qO,sq,e]
  have m:1<=2^h:=xS;have j:1<=n:=by
   rcases pz n with g|g
   ·rw[g]at c;omega
   exact g
  have o:2^h*2<=n*(2^h*2):=Nat.le_mul_of_pos_left _ j;have p:n<512:=by
   have:n*2<=n*(2^h*2):=Nat.mul_le_mul_left _ Y;omega
  have k:n*(2^h*2)+2^h<1024:=by
   have:n*(2^h*2)+(2^h*2)<=1024:=by
    have r:h<=9:=by
     rcases qu 9 h with g|g
     ·have:2^10<=2^h:=tb G g
      omega
     exact g
    have g:2^h*2∣1024:=by
     rw[<-mF,show 1024=2^10 by decide];exact Nat.pow_dvd_pow _ Y
    obtain⟨q,l⟩:=g;rw[l]at a⊢;have:n<q:=by
     rw[j6]at a;exact Nat.lt_of_mul_lt_mul_left a
    rw[<-Nat.succ_mul,j6 (2^h*2) q];exact xN _ this
   omega
  exact Eo f b d (h+1) n (by rw[mF];exact c) (by rw[mF];exact a) j Y
   (λ_=>⟨h,rfl,zi f b d h (2*n) (by rw[e];exact c) (by rw[e];exact a),zi f b d h (2*n+1) (by rw[i];omega) (by rw[i];exact k)⟩) (λh=>by omega)
end
end Go.Proofs.YtdjkajodkjfjlaaGreatDoor
