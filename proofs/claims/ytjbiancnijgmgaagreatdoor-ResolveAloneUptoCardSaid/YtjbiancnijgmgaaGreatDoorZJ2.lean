/- Contracts of functions that the law reaches, part 2 of 7; no condition. -/
import Derived.Shelf.Small.Bits
import Derived.Shelf.Small.Wraps
import Derived.Shelf.Sort.Plain
import Derived.Shelf.Bytes.WriteAt
import Derived.Shelf.Bits.Mul64
import Derived.Shelf.Slices.CompactI
import Derived.Shelf.Slices.In.SortNone
import Derived.BigGuardPart
import Derived.Deep.CutBlock
import Derived.Deep.DeepCutAuto
import Derived.RangeFuncNested
import Derived.Deep.RegionHeld3
import Derived.RangeFuncBound
import Derived.Deep.AppendLies
import Derived.Laws.AppendOwnNone
import Derived.Laws.CopyOwn
import Derived.Lib.AppendIntMem
import Derived.Great.Walk
import Derived.Deep.WholeRow
import Derived.Shelf.Bytes.SlEqualAll
import Derived.StillTail
import Derived.Lib.ConvBytes
import Derived.Maps.OwnIn
import Derived.Lib.SlKeysI
import Derived.Test.YtjbiancnijgmgaaGreatDoorZJ1
namespace Go.Proofs.YtjbiancnijgmgaaGreatDoor
set_option maxHeartbeats 64000000
set_option maxRecDepth 100000
set_option linter.unusedVariables false
set_option linter.unusedSimpArgs false
set_option linter.unusedSectionVars false
open Go.RowKit
open Go.Proofs.Tryz
open _root_ renaming Nat->I,Int->N,rfl->T,List->je,BitVec->jl,Array->jt,congrArg->jv,Bool->jw,Option->jE,if_neg->j5,if_pos->pz,absurd->qk
open _root_.Option renaming some->A,none->jd,some->qN,map_eq_some_iff->xz,eq_none_or_eq_some->xX
open Go.Value renaming int->ja
open Go.Value renaming int->jb,oneCell'->rk,ownBlock->xk
open Go renaming World->jc,Value->jh,TypeId->jq,Calls->ju,Oper->jy,undef->jB,Boxed->jD,Program->jI,wpOp->jK,Addr->jP,Exit->jT,execOp->jV,yielded->jX,maxLen->jY,Code->j0,wpOp_mono->j1,Operand->nn,results_none->ob,wpList->oj,DataW->o5,bodyPost_ret->o8,info_parts->qd,wp_region_lit->ql,wpList_load_row->qn,wpList_plain->qo,KeepsFrom->qC,callsIn_wide->qD,run_takeDeferred->qE,callFunc->qL,wpOp_step->qU,MemPlace->r4,bits_or_u64_nat->r6,callsIn_of_wp->r7,wp_store_row->r8,results_cell_row->r9,wpList_append_own->sh,bodyPost_end->xt,callsIn_of_wp_marks->xu,run_underlying->xw,run_sliceAt_slice->xx
open _root_.Bool renaming true->jf,false->jz,and_eq_true->jZ,or_eq_true->qZ
open Go.IntKind renaming i64->jg,u64->jk,u32->jr,u8->jF
open Go.Proofs.Tryz renaming prog->ji
open Go.Obj renaming cells->jj
open Go.RowKit renaming Hid->jm,Below->jn
open Go.IntKind renaming u32->jo,u64->jJ,wrap_u64->p6
open Go.Value renaming slice->jp,pointer->jG,tuple->jL,agg->jS,string->qG
open Go.Ending renaming returned->js
open _root_.Nat renaming le_refl->jA,mod_eq_of_lt->j3,mul_comm->ms,zero_add->mz,le_trans->qb,eq_zero_or_pos->qh,pow_succ->qi,zero_le->qj,reduceAdd->qt,reduceSub->qu,lt_of_lt_of_le->qA,lt_or_ge->qI,le_of_eq->qO,mod_lt->qP,shiftLeft_eq->q8,add_assoc->rn,two_pow_add_eq_or_of_lt->sl,mul_add_mod->sn,zero_mul->sv,mul_mod->sx,mul_assoc->sy,pow_le_pow_right->wq,shiftRight_eq_div_pow->xg,lt_or_eq_of_le->xo,mod_two_eq_zero_or_one->xJ,div_le_self->xL,not_lt_zero->xV,one_le_two_pow->xY,le_of_lt_succ->yl
open Go.Proofs renaming intOf->jC
open Go.RowKit.Below renaming heap_alloc->jH,refl->jM,heap_setCell->qe,setCell->wt
open Go.Proofs.Tryz renaming underlying3->jN,underlying66->jR,func245->j6,ntmps245->j7,underlying9->qB,underlying23->qF,func189->qJ,ntmps189->qK,underlying5->qT,underlying357->qV,underlying150->qW,func237->qX,underlying0->xq,underlying4->xr,underlying28->xy
open Go.World renaming alloc_heap_new->jO,cell?->j4,size_alloc->j8,putObj_heap_other->ow,putObj->qY,grownBy->q7,setCell->xj,ownsRow_nil->xl,putObj_heap_same->xD,frozen?->xR
open _root_.Array renaming getElem?_eq_some_iff->jQ,all_eq_true_iff_forall_mem->qf,replicate->qg,replicate_succ->qv,replicate_zero->qw,getD_eq_getD_getElem?->qH,getElem?_eq_none->sq,getElem?_modify->xi,getElem?_setIfInBounds_ne->xE,setIfInBounds_comm->xG
open _root_.List renaming getD->jU,size_toArray->jW,length_map->j9,replicate->nv,length_cons->o1,getElem?_eq_some_iff->o3,nil_append->qa,mem_map->qc,length_nil->qs,push_toArray->qx,append_toArray->qy,cons_append->qz,getElem?_map->qM,append_assoc->qS,set->q9,getElem?_eq_getElem->rv,append_nil->wi,eq_nil_of_length_eq_zero->wv,map_toArray->wx,map_cons->xa,map_nil->xd,length_append->xm,mem_append->xn,getElem?_take->xA,getElem?_drop->xB,getElem?_eq_none->xC,all_eq_true->xH,mem_range->xI,getD_eq_getElem?_getD->xS,flatten_append->xT,map_append->xU,take_succ_eq_append_getElem->xW,mem_singleton->xZ
open _root_.BitVec renaming ofNat->n0,toNat_setWidth->qQ,toNat_ofNat->xe,toNat_ushiftRight->xf,toNat_shiftLeft->xh,ofInt->xM,toNat_xor->xN,toNat_or->xO,toNat_add->xP,rotateLeft_def->xQ
open _root_.Int renaming toNat_natCast->vi,eq_ofNat_of_zero_le->xK
variable{B b:I}{f:I->Prop}{d:LBy}{H:Type}{P:jI}{W a w w':jc}{u:je (jl 32)}{m:je I}{e:jh}{t:jq}
def vd{H:Type}(a:je (je UInt8)):o5 H:=.agg (a.map λz=>.lit (.string z))
theorem Pj{enc:jq×jh->H}{P:jI}{w:jc}{B:I}{e:I->jw}{k:jw}{b:I}{t j:jq}{i:I}{c:je jh}{a:je (je UInt8)}{p:je r4}
 (l:P.underlying t=A (.array i j)) (he:P.underlying j=A .string) (m:P.cellsOf j=1) (o:P.cellsOf t=i)
 (h:DataW.trod enc P w B e k b t c=A (vd a,p)):c=a.map λz=>Value.string ⟨z.toArray⟩:=by
 rcases b with _|b
 ·simp[DataW.trod]at h
 simp only[DataW.trod,l,m,o,Nat.mul_one]at h
 split at h
 ·rename_i D
  obtain⟨xs,f,q⟩:=xz.1 h;have g:xs.map (·.1)=a.map λz=>(DataW.lit (.string z):o5 H):=by
   have:=jv Prod.fst q
   simpa [vd]using this
  have E:xs.length=i:=by simpa using Lib.mapM_length f
  have F:a.length=i:=by
   have:=jv List.length g;simp at this;omega
  apply List.ext_getElem?
  intro n
  by_cases r:n<i
  ·obtain⟨fuel,u,v⟩:=Lib.mapM_at f n n (by simp[r])
   obtain⟨s,x,rfl,-⟩:=DataW.trod_string he v;have y:c[n]?=A (.string s):=by
    have:=jv (·[0]?) x
    simpa [xA,xB]using this
   have d:(xs.map (·.1))[n]?=A (DataW.lit (.string s.data.toList):o5 H):=by simp[u]
   rw[g]at d;simp only[qM,xz,DataW.lit.injEq,Lit.string.injEq]at d;obtain⟨K,base,C⟩:=d;rw[y,qM,base,C];simp
  rw[xC Y,xC (by simp;omega)]
 cases h
theorem Ky{P:jI}{W:jc}{a:String}{b:je (je UInt8)}{c:je (String×o5 Unit)}{g:I}{t e:jq}{n:I}
 (d:P.globalNamed a=A g) (f:(P.globals[g]?).map (·.type)=A t) (i:P.underlying t=A (.array n e)) (he:P.underlying e=A .string) (j:P.cellsOf e=1) (k:P.cellsOf t=n)
 (h:laidMet P ((a,vd b)::c) W):W.var? P a=A (b.map λz=>Value.string ⟨z.toArray⟩).toArray:=by
 obtain⟨s,⟨g',u,v,fuel,p,q,l,m,o,r,_,_⟩,_⟩:=h;obtain rfl:=qN.inj (d.symm.trans l);obtain rfl:=qN.inj (f.symm.trans m);rw[o,<-Pj i he j k r]
section
open Go.Shelf
def Tryzx.laysM180_ren:Go.Shelf.Ren:=⟨fun|180=>158|251=>209|252=>210|181=>251|184=>252|290=>253|324=>265|n=>n,fun|130=>308|37=>66|3=>3|75=>255|0=>0|93=>251|91=>249|131=>61|4=>4|20=>20|5=>5|80=>365|9=>9|n=>n,fun|14=>5|n=>n⟩
theorem Tryzx.laysM180:Go.Proofs.LaysM.n180 ji Tryzx.laysM180_ren:={
 mixed:=by kernel_rfl
 f180:=func158.trans (jv A af)
 f181:=func251.trans (jv A af)
 f184:=func252.trans (jv A af)
 f251:=func209.trans (jv A af)
 f252:=func210.trans (jv A af)
 f290:=func253.trans (jv A af)
 f324:=func265.trans (jv A af)
 t0:=xq
 a0:=isAgg0
 z0:=sizeOf0
 v0:=zeroValue0
 t3:=jN
 a3:=isAgg3
 z3:=sizeOf3
 v3:=zeroValue3
 t4:=xr
 a4:=isAgg4
 z4:=sizeOf4
 v4:=zeroValue4
 t20:=underlying20
 a20:=isAgg20
 z20:=sizeOf20
 v20:=zeroValue20
 t37:=jR
 a37:=isAgg66
 z37:=sizeOf66
 v37:=zeroValue66
 t75:=underlying255
 a75:=isAgg255
 z75:=sizeOf255
 v75:=zeroValue255
 t91:=underlying249
 a91:=isAgg249
 z91:=sizeOf249
 v91:=zeroValue249
 t93:=underlying251
 a93:=isAgg251
 z93:=sizeOf251
 v93:=zeroValue251
 t130:=underlying308
 a130:=isAgg308
 z130:=sizeOf308
 v130:=zeroValue308
 t131:=underlying61
 a131:=isAgg61
 z131:=sizeOf61
 v131:=zeroValue61
 g14:=by kernel_rfl
 t5:=qT
 a5:=isAgg5
 z5:=sizeOf5
 v5:=zeroValue5
 t9:=qB
 a9:=isAgg9
 z9:=sizeOf9
 v9:=zeroValue9
 t80:=underlying365
 a80:=isAgg365
 z80:=sizeOf365
 v80:=zeroValue365
 i0:=by kernel_rfl
 i3:=by kernel_rfl
 i4:=by kernel_rfl
 i5:=by kernel_rfl
 i9:=by kernel_rfl
 i20:=by kernel_rfl
 i37:=by kernel_rfl
 i75:=by kernel_rfl
 i80:=by kernel_rfl
 i91:=by kernel_rfl
 i93:=by kernel_rfl
 i130:=by kernel_rfl
 i131:=by kernel_rfl
 m14:=by kernel_rfl}
open Go.RowKit in
theorem Tryz.Buffer_Write_at(g:jq)(R:I->jE jh)(B b q:I)(d f:je jh)(a:jP)(n c:I)(w:jc)(h:LibA.IsBuffer g R 5 B b q d w)(i:B<=w.heap.size)(k:∀v∈d,v.oneCell'=jf)(l:f.length=n)(m:a.block≠b)(o:∀j v,f[j]?=A v->w.cell? (a.add j)=A v)(j:∀v∈f,v.oneCell'=jf)(p:d.length+n<=140737488355328):
 ju ji 158 #[jG (A ⟨b,q,jd⟩),jp (A a) n c] w λe w'=>e=js (jL #[ja jg n,.nilIface])/\LibA.IsBuffer g R 5 B b q (d++f) w'/\jn B w w'/\Lib.OthersKept 5 (A b) w w':=Any.Buffer_Write_at Tryzx.laysM180 g R B b q d f a n c w h i k l m o j p
end
theorem pS(a:I)(b:a<18446744073709551616):bits .and .u64 (a:N) 4294967295=((a%4294967296:I):N):=by
 have h:=bits_and_u64_nat a 4294967295 b Y;have e:a&&&4294967295=a%4294967296:=Nat.and_two_pow_sub_one_eq_mod a 32;rw[e]at h;exact h
theorem Uj(a:I):(a:N)/4294967296=((a/4294967296:I):N):=Y
theorem RP(a b:I):(a:N)*(b:N)=((a*b:I):N):=(Int.natCast_mul a b).symm
theorem MX(a b:I):(a:N)+(b:N)=((a+b:I):N):=(Int.natCast_add a b).symm
theorem nX(a:I)(b:a<18446744073709551616):jJ.wrap (a:N)=(a:N):=by rw[p6];omega
theorem K6(a:I):jJ.wrap (a:N)=((a%18446744073709551616:I):N):=by rw[p6];omega
theorem B8(x y:I)(c:x<18446744073709551616)(d:y<18446744073709551616)(w:jc):
 ju ji 188 #[ja jk x,ja jk y] w λe w'=>e=js (jL #[ja jk ((x*y/18446744073709551616:I):N),ja jk ((x*y%18446744073709551616:I):N)])/\w=w':=by
 obtain⟨g,f,h,i⟩:=Lib.mul64_hi x y c d;have o:=Lib.half_mul_le (a:=x/4294967296) (b:=y/4294967296) Y Y;have p:=Lib.half_mul_le (a:=x/4294967296) (b:=y%4294967296) Y Y;have q:=Lib.half_mul_le (a:=x%4294967296) (b:=y/4294967296) Y Y;have j:x/4294967296*(y/4294967296)<18446744073709551616:=Y;have k:x/4294967296*(y%4294967296)<18446744073709551616:=Y;have l:x%4294967296*(y/4294967296)<18446744073709551616:=Y;have m:x/4294967296*(y/4294967296)+(x/4294967296*(y%4294967296)+x%4294967296*(y%4294967296)/4294967296)/4294967296<18446744073709551616:=Y;have n:x/4294967296*(y/4294967296)+(x/4294967296*(y%4294967296)+x%4294967296*(y%4294967296)/4294967296)/4294967296+((x/4294967296*(y%4294967296)+x%4294967296*(y%4294967296)/4294967296)%4294967296+x%4294967296*(y/4294967296))/4294967296<18446744073709551616:=Y
 go_enter func188,ntmps188
 go_wp2
 simp only[pS x c,pS y d,Uj,RP,MX,nX _ g,nX _ k,nX _ f,pS _ f,nX _ l,nX _ h,nX _ j,nX _ m,nX _ n,K6 (x*y)];rw[i];go_ret2;exact⟨T,T⟩
theorem tW(w:jc):ju ji 242 #[ja jk 4611686018427377339] w λe w'=>e=js (ja jg 2)/\w=w':=by
 have a:=λw=>uv 4611686018427377339 G G w
 have e:bitLen (4611686018427377339:N).toNat=62:=by decide+kernel
 rw[e]at a
 go_enter func242,ntmps242
 go_wp2_with (go_at_call 144;refine(a _).mono ?_;rintro e w' ⟨rfl,rfl⟩)
 go_ret;exact⟨T,T⟩
theorem ig(q r u d:I)(a:q*4294967295+r=u)(b:u*4294967296+d<q*18446744073709509356)(c:r=0):(q-1)*4294967295+(r+4294967295)=u/\u*4294967296+d<(q-1+1)*18446744073709509356:=Y
theorem gW(q r u d:I)(a:q*4294967295+r=u)(b:u<18446744073709509356)(c:u*4294967296+d<q*18446744073709509356)(e:¬r=0)(f:q<=4294967297):(q-1)*18446744073709509356<=u*4294967296+d/\u*4294967296+d<(q-1+1)*18446744073709509356:=Y
theorem nG(q r u d:I)(a:d<=4294967295)(b:u<18446744073709509356)(c:4294967296<=q):u*4294967296+d<q*18446744073709509356:=Y
theorem nR(q r u d:I)(a:q*4294967295+r=u)(b:4294967296*r+d<q*4294925036):u*4294967296+d<q*18446744073709509356:=Y
theorem nT(q r u d:I)(a:q*4294967295+r=u)(b:¬4294967296*r+d<q*4294925036):q*18446744073709509356<=u*4294967296+d:=Y
theorem nI(u d:I)(a:d<=4294967295)(b:u<18446744073709509356):u/4294967295*4294967295+u%4294967295=u/\u*4294967296+d<(u/4294967295+1)*18446744073709509356:=Y
theorem t_v(u d k v:I)(a:k*18446744073709509356<=u*4294967296+d)(b:u*4294967296+d<(k+1)*18446744073709509356)(c:v=u*4294967296+d-k*18446744073709509356):v<18446744073709509356/\v+k*18446744073709509356=u*4294967296+d:=Y
theorem nC(v q r:I)(a:v<18446744073709509356)(b:q=v/4294967295)(c:r=v%4294967295):
 (v:N)/4294967295=(q:N)/\(v:N)-(q:N)*4294967295=(r:N)/\q<=4294967297/\(q:N)*4294967295<=(v:N)/\r<=4294967294:=Y
theorem t_w(u d k v:I)(a:v+k*18446744073709509356=u*4294967296+d)(b:v<18446744073709509356):
 jJ.wrap (jJ.wrap (jJ.wrap ((u:N)*4294967296)+(d:N))-jJ.wrap ((k:N)*18446744073709509356))=(v:N):=by
 simp only[p6];omega
theorem te(c b u l d a k m v z:I)(r:b<18446744073709551616)(s:c<4611686018427377339)(e:u=4*c+b/4611686018427387904)(f:l=b*4%18446744073709551616)(g:d=l/4294967296)(h:a=l%4294967296)
 (i:v+k*18446744073709509356=u*4294967296+d) (j:m*18446744073709509356<=v*4294967296+a) (n:v*4294967296+a<(m+1)*18446744073709509356) (o:z=(v*4294967296+a-m*18446744073709509356)/4):
 c*18446744073709551616+b=(k*4294967296+m)*4611686018427377339+z/\z<4611686018427377339/\4*z+m*18446744073709509356=v*4294967296+a:=by
 have p:l=d*4294967296+a:=Y;have q:u*18446744073709551616+l=4*(c*18446744073709551616+b):=Y;clear e f g h;obtain⟨h,e⟩:=J (v*4294967296+a);obtain⟨B,f⟩:=J (c*18446744073709551616+b);obtain⟨K,g⟩:=J (k*4294967296);have t:h+K*18446744073709509356=4*B:=Y;rw[<-e]at j n o;rw[<-e,<-f,<-g];clear i p q e f g;omega
theorem div64_0(a:I)(b:a<18446744073709551616)(w:jc):
 ju ji 189 #[ja jk 0,ja jk a,ja jk 4611686018427377339] w λe w'=>
  ∃q:N,e=js (jL #[ja jk q,ja jk ((a%4611686018427377339:I):N)])/\jn w w w':=by
 have c:(0:N)<=a:=Y
 go_enter qJ,qK
 go_upto_region 6 with fail
 go_quiet (fail)
 go_wp2
 go_ret2;exact⟨_,T,T,T,T,jA _,λ_ _=>rfl⟩
theorem div64_1(d j:I)(h0:1<=d)(aa:d<4611686018427377339)(Y9:j<18446744073709551616)(w:jc):
 ju ji 189 #[ja jk d,ja jk j,ja jk 4611686018427377339] w λe w'=>
  ∃q:N,e=js (jL #[ja jk q,ja jk (((d*18446744073709551616+j)%4611686018427377339:I):N)])/\jn w w w':=by
 obtain⟨u,k⟩:∃u:I,u=4*d+j/4611686018427387904:=⟨_,T⟩;obtain⟨l,m⟩:∃l:I,l=j*4%18446744073709551616:=⟨_,T⟩;obtain⟨a,g⟩:∃a:I,a=l/4294967296:=⟨_,T⟩;obtain⟨c,p⟩:∃c:I,c=l%4294967296:=⟨_,T⟩;obtain⟨q,s⟩:∃q:I,q=u/4294967295:=⟨_,T⟩;obtain⟨r,t⟩:∃r:I,r=u%4294967295:=⟨_,T⟩;have v:bits .and .u64 18446744073709509356 4294967295=4294925036:=by decide+kernel
 have x:bits .or .u64 ((d:N)*4) ((j:N)/4611686018427387904)=(u:N):=by
  have f:(d:N)*4=((d*4:I):N):=Y;have n:(j:N)/4611686018427387904=((j/4611686018427387904:I):N):=Y;rw[f,n,r6 _ _ Y Y,k];have h:=sl (i:=2) (b:=j/4611686018427387904) Y d;rw[show 2^2*d=d*4 by omega]at h;rw[<-h];omega
 have h:jJ.wrap ((j:N)*4)=(l:N):=by rw[p6,m];omega
 have y:(l:N)/4294967296=(a:N):=Y;have z:bits .and .u64 (l:N) 4294967295=(c:N):=by rw[pS l Y,p]
 have o:u<18446744073709509356:=Y;have U:a<=4294967295:=Y;have V:c<=4294967295:=Y;obtain⟨C,E,n,D,B⟩:=nC u q r o s t;have f:jm (q*4294967295+r=u/\u*4294967296+a<(q+1)*18446744073709509356):=O (by rw[s,t];exact nI u a U o);have HU:=O k;have HL:=O m;have ad:=O g;have au:=O p;clear k m g p s t;have ax:=O tW;have g:=az ((4611686018427377339:N)<=(d:N));have hd2:=az (d=0);have hd3:=az ((d:N)=0)
 go_enter qJ,qK
 go_upto_block 0 with(go_at_call 242;refine(ax _).mono ?_;rintro e w' ⟨rfl,rfl⟩)
 clear v x h y z C E g hd2 hd3
 go_cut [15,16] (λm z F=>∃k:I,m=ja jk k/\jm (k*18446744073709509356<=u*4294967296+a/\u*4294967296+a<(k+1)*18446744073709509356)/\w=F)
 case first=>
  go_wp2_with fail
  go_loop [15,16] (λm z=>∃q r:I,m=ja jk q/\z=ja jk r/\q<=4294967297/\r<=4294967295/\jm (q*4294967295+r=u/\u*4294967296+a<(q+1)*18446744073709509356)) (λm _=>(jC m).toNat)
  case atStart=>exact⟨q,r,T,T,n,by omega,f⟩
  clear n D B f;have H:=U;have o:=o;obtain⟨q,r,rfl,rfl,n,B,f⟩:=hrel;obtain⟨g,t⟩:=f.out
  by_cases K:4294967296<=q
  ·have M:=aA ((4294967296:N)<=(q:N))
   have p:=O (nG q r u a H o K);have s:=O g;clear g t f
   go_upto_region 20 with fail
   by_cases h:r=0
   ·have y:=az ((4294967296:N)<=(r:N)+4294967295)
    go_wp2_with fail
    refine⟨⟨q-1,r+4294967295,?_,?_,by omega,by omega,O (ig q r _ _ s.out p h)⟩,?_⟩
    ·exact jv (jb .u64) Y
    ·exact jv (jb .u64) Y
    simp only[jC];omega
   have y:=aA ((4294967296:N)<=(r:N)+4294967295)
   go_wp2_with fail
   go_meet
   exact⟨q-1,jv (jb .u64) Y,O (gW q r _ _ s.out o p h n),T⟩
  have M:=az ((4294967296:N)<=(q:N))
  by_cases x:4294967296*r+a<q*4294925036
  ·have P:=aA ((4294967296:N)*(r:N)+(a:N)<(q:N)*4294925036)
   have ay:1<=q:=Y;have p:=O (nR q r u a g x);have s:=O g;clear g t f x
   go_upto_region 20 with fail
   by_cases h:r=0
   ·have y:=az ((4294967296:N)<=(r:N)+4294967295)
    go_wp2_with fail
    refine⟨⟨q-1,r+4294967295,?_,?_,by omega,by omega,O (ig q r _ _ s.out p h)⟩,?_⟩
    ·exact jv (jb .u64) Y
    ·exact jv (jb .u64) Y
    simp only[jC];omega
   have y:=aA ((4294967296:N)<=(r:N)+4294967295)
   go_wp2_with fail
   go_meet
   exact⟨q-1,jv (jb .u64) Y,O (gW q r _ _ s.out o p h n),T⟩
  have P:=az ((4294967296:N)*(r:N)+(a:N)<(q:N)*4294925036);have Q:jm (q*18446744073709509356<=u*4294967296+a/\u*4294967296+a<(q+1)*18446744073709509356):=O ⟨nT q r _ _ g x,t⟩;clear g t f x
  go_wp2_with fail
  go_meet
  exact⟨q,T,Q,T⟩
 obtain⟨k,rfl,W,rfl⟩:=hcut;obtain⟨v,C⟩:∃v:I,v=u*4294967296+a-k*18446744073709509356:=⟨_,T⟩;obtain⟨E,R⟩:=t_v u a k v W.1 W.2 C;have X:=O R;clear C R;have E7:=t_w u a k v X E;obtain⟨C,R⟩:∃C:I,C=v/4294967295:=⟨_,T⟩;obtain⟨r2,S⟩:∃r2:I,r2=v%4294967295:=⟨_,T⟩;clear n D B f;obtain⟨E8,E9,n,D,B⟩:=nC v C r2 E R S;have f:jm (C*4294967295+r2=v/\v*4294967296+c<(C+1)*18446744073709509356):=O (by rw[R,S];exact nI v c V E);clear R S
 go_upto_block 2 with fail
 clear E7 E8 E9
 go_cut [18,16] (λm z F=>∃k:I,m=ja jk k/\jm (k*18446744073709509356<=v*4294967296+c/\v*4294967296+c<(k+1)*18446744073709509356)/\w=F)
 case first=>
  go_wp2_with fail
  go_loop [18,16] (λm z=>∃q r:I,m=ja jk q/\z=ja jk r/\q<=4294967297/\r<=4294967295/\jm (q*4294967295+r=v/\v*4294967296+c<(q+1)*18446744073709509356)) (λm _=>(jC m).toNat)
  case atStart=>exact⟨C,r2,T,T,n,by omega,f⟩
  clear n D B f;have H:=V;have o:=E;obtain⟨q,r,rfl,rfl,n,B,f⟩:=hrel;obtain⟨g,t⟩:=f.out
  by_cases K:4294967296<=q
  ·have M:=aA ((4294967296:N)<=(q:N))
   have p:=O (nG q r v c H o K);have s:=O g;clear g t f
   go_upto_region 27 with fail
   by_cases h:r=0
   ·have y:=az ((4294967296:N)<=(r:N)+4294967295)
    go_wp2_with fail
    refine⟨⟨q-1,r+4294967295,?_,?_,by omega,by omega,O (ig q r _ _ s.out p h)⟩,?_⟩
    ·exact jv (jb .u64) Y
    ·exact jv (jb .u64) Y
    simp only[jC];omega
   have y:=aA ((4294967296:N)<=(r:N)+4294967295)
   go_wp2_with fail
   go_meet
   exact⟨q-1,jv (jb .u64) Y,O (gW q r _ _ s.out o p h n),T⟩
  have M:=az ((4294967296:N)<=(q:N))
  by_cases x:4294967296*r+c<q*4294925036
  ·have P:=aA ((4294967296:N)*(r:N)+(c:N)<(q:N)*4294925036)
   have ay:1<=q:=Y;have p:=O (nR q r v c g x);have s:=O g;clear g t f x
   go_upto_region 27 with fail
   by_cases h:r=0
   ·have y:=az ((4294967296:N)<=(r:N)+4294967295)
    go_wp2_with fail
    refine⟨⟨q-1,r+4294967295,?_,?_,by omega,by omega,O (ig q r _ _ s.out p h)⟩,?_⟩
    ·exact jv (jb .u64) Y
    ·exact jv (jb .u64) Y
    simp only[jC];omega
   have y:=aA ((4294967296:N)<=(r:N)+4294967295)
   go_wp2_with fail
   go_meet
   exact⟨q-1,jv (jb .u64) Y,O (gW q r _ _ s.out o p h n),T⟩
  have P:=az ((4294967296:N)*(r:N)+(c:N)<(q:N)*4294925036);have Q:jm (q*18446744073709509356<=v*4294967296+c/\v*4294967296+c<(q+1)*18446744073709509356):=O ⟨nT q r _ _ g x,t⟩;clear g t f x
  go_wp2_with fail
  go_meet
  exact⟨q,T,Q,T⟩
 obtain⟨m,rfl,s,rfl⟩:=hcut;obtain⟨z,h⟩:∃z:I,z=(v*4294967296+c-m*18446744073709509356)/4:=⟨_,T⟩;obtain⟨t,x,p⟩:=te d j u l a c k m v z Y9 aa HU HL ad au X s.1 s.2 h;have y:((d*18446744073709551616+j)%4611686018427377339:I)=z:=by
  rw[t,ms,sn,j3 x]
 obtain⟨g,F⟩:∃g:I,g=4*z:=⟨_,T⟩;rw[<-F]at p;have K:=t_w v c m g p Y;have M:(g:N)/4=(z:N):=Y;have H:=O y;clear h t x p y F
 go_wp2_with fail
 go_ret2;rw[H];exact⟨_,T,jM _ _⟩
namespace DivQ
theorem tW(w:jc):ju ji 242 #[ja jk 2305843009213688669] w λe w'=>e=js (ja jg 3)/\w=w':=by
 have a:=λw=>uv 2305843009213688669 G G w
 have e:bitLen (2305843009213688669:N).toNat=61:=by decide+kernel
 rw[e]at a
 go_enter func242,ntmps242
 go_wp2_with (go_at_call 144;refine(a _).mono ?_;rintro e w' ⟨rfl,rfl⟩)
 go_ret;exact⟨T,T⟩
theorem ig(q r u d:I)(a:q*4294967295+r=u)(b:u*4294967296+d<q*18446744073709509352)(c:r=0):(q-1)*4294967295+(r+4294967295)=u/\u*4294967296+d<(q-1+1)*18446744073709509352:=Y
theorem gW(q r u d:I)(a:q*4294967295+r=u)(b:u<18446744073709509352)(c:u*4294967296+d<q*18446744073709509352)(e:¬r=0)(f:q<=4294967297):(q-1)*18446744073709509352<=u*4294967296+d/\u*4294967296+d<(q-1+1)*18446744073709509352:=Y
theorem nG(q r u d:I)(a:d<=4294967295)(b:u<18446744073709509352)(c:4294967296<=q):u*4294967296+d<q*18446744073709509352:=Y
theorem nR(q r u d:I)(a:q*4294967295+r=u)(b:4294967296*r+d<q*4294925032):u*4294967296+d<q*18446744073709509352:=Y
theorem nT(q r u d:I)(a:q*4294967295+r=u)(b:¬4294967296*r+d<q*4294925032):q*18446744073709509352<=u*4294967296+d:=Y
theorem nI(u d:I)(a:d<=4294967295)(b:u<18446744073709509352):u/4294967295*4294967295+u%4294967295=u/\u*4294967296+d<(u/4294967295+1)*18446744073709509352:=Y
theorem t_v(u d k v:I)(a:k*18446744073709509352<=u*4294967296+d)(b:u*4294967296+d<(k+1)*18446744073709509352)(c:v=u*4294967296+d-k*18446744073709509352):v<18446744073709509352/\v+k*18446744073709509352=u*4294967296+d:=Y
theorem nC(v q r:I)(a:v<18446744073709509352)(b:q=v/4294967295)(c:r=v%4294967295):
 (v:N)/4294967295=(q:N)/\(v:N)-(q:N)*4294967295=(r:N)/\q<=4294967297/\(q:N)*4294967295<=(v:N)/\r<=4294967294:=Y
theorem t_w(u d k v:I)(a:v+k*18446744073709509352=u*4294967296+d)(b:v<18446744073709509352):
 jJ.wrap (jJ.wrap (jJ.wrap ((u:N)*4294967296)+(d:N))-jJ.wrap ((k:N)*18446744073709509352))=(v:N):=by
 simp only[p6];omega
theorem te(c b u l d a k m v z:I)(r:b<18446744073709551616)(s:c<2305843009213688669)(e:u=8*c+b/2305843009213693952)(f:l=b*8%18446744073709551616)(g:d=l/4294967296)(h:a=l%4294967296)
 (i:v+k*18446744073709509352=u*4294967296+d) (j:m*18446744073709509352<=v*4294967296+a) (n:v*4294967296+a<(m+1)*18446744073709509352) (o:z=(v*4294967296+a-m*18446744073709509352)/8):
 c*18446744073709551616+b=(k*4294967296+m)*2305843009213688669+z/\z<2305843009213688669/\8*z+m*18446744073709509352=v*4294967296+a:=by
 have p:l=d*4294967296+a:=Y;have q:u*18446744073709551616+l=8*(c*18446744073709551616+b):=Y;clear e f g h;obtain⟨h,e⟩:=J (v*4294967296+a);obtain⟨B,f⟩:=J (c*18446744073709551616+b);obtain⟨K,g⟩:=J (k*4294967296);have t:h+K*18446744073709509352=8*B:=Y;rw[<-e]at j n o;rw[<-e,<-f,<-g];clear i p q e f g;omega
theorem div64_0(a:I)(b:a<18446744073709551616)(w:jc):
 ju ji 189 #[ja jk 0,ja jk a,ja jk 2305843009213688669] w λe w'=>
  ∃q:N,e=js (jL #[ja jk q,ja jk ((a%2305843009213688669:I):N)])/\jn w w w':=by
 have c:(0:N)<=a:=Y
 go_enter qJ,qK
 go_upto_region 6 with fail
 go_quiet (fail)
 go_wp2
 go_ret2;exact⟨_,T,T,T,T,jA _,λ_ _=>rfl⟩
theorem div64_1(d j:I)(h0:1<=d)(aa:d<2305843009213688669)(Y9:j<18446744073709551616)(w:jc):
 ju ji 189 #[ja jk d,ja jk j,ja jk 2305843009213688669] w λe w'=>
  ∃q:N,e=js (jL #[ja jk q,ja jk (((d*18446744073709551616+j)%2305843009213688669:I):N)])/\jn w w w':=by
 obtain⟨u,k⟩:∃u:I,u=8*d+j/2305843009213693952:=⟨_,T⟩;obtain⟨l,m⟩:∃l:I,l=j*8%18446744073709551616:=⟨_,T⟩;obtain⟨a,g⟩:∃a:I,a=l/4294967296:=⟨_,T⟩;obtain⟨c,p⟩:∃c:I,c=l%4294967296:=⟨_,T⟩;obtain⟨q,s⟩:∃q:I,q=u/4294967295:=⟨_,T⟩;obtain⟨r,t⟩:∃r:I,r=u%4294967295:=⟨_,T⟩;have v:bits .and .u64 18446744073709509352 4294967295=4294925032:=by decide+kernel
 have x:bits .or .u64 ((d:N)*8) ((j:N)/2305843009213693952)=(u:N):=by
  have f:(d:N)*8=((d*8:I):N):=Y;have n:(j:N)/2305843009213693952=((j/2305843009213693952:I):N):=Y;rw[f,n,r6 _ _ Y Y,k];have h:=sl (i:=3) (b:=j/2305843009213693952) Y d;rw[show 2^3*d=d*8 by omega]at h;rw[<-h];omega
 have h:jJ.wrap ((j:N)*8)=(l:N):=by rw[p6,m];omega
 have y:(l:N)/4294967296=(a:N):=Y;have z:bits .and .u64 (l:N) 4294967295=(c:N):=by rw[pS l Y,p]
 have o:u<18446744073709509352:=Y;have U:a<=4294967295:=Y;have V:c<=4294967295:=Y;obtain⟨C,E,n,D,B⟩:=nC u q r o s t;have f:jm (q*4294967295+r=u/\u*4294967296+a<(q+1)*18446744073709509352):=O (by rw[s,t];exact nI u a U o);have HU:=O k;have HL:=O m;have ad:=O g;have au:=O p;clear k m g p s t;have ax:=O tW;have g:=az ((2305843009213688669:N)<=(d:N));have hd2:=az (d=0);have hd3:=az ((d:N)=0)
 go_enter qJ,qK
 go_upto_block 0 with(go_at_call 242;refine(ax _).mono ?_;rintro e w' ⟨rfl,rfl⟩)
 clear v x h y z C E g hd2 hd3
 go_cut [15,16] (λm z F=>∃k:I,m=ja jk k/\jm (k*18446744073709509352<=u*4294967296+a/\u*4294967296+a<(k+1)*18446744073709509352)/\w=F)
 case first=>
  go_wp2_with fail
  go_loop [15,16] (λm z=>∃q r:I,m=ja jk q/\z=ja jk r/\q<=4294967297/\r<=4294967295/\jm (q*4294967295+r=u/\u*4294967296+a<(q+1)*18446744073709509352)) (λm _=>(jC m).toNat)
  case atStart=>exact⟨q,r,T,T,n,by omega,f⟩
  clear n D B f;have H:=U;have o:=o;obtain⟨q,r,rfl,rfl,n,B,f⟩:=hrel;obtain⟨g,t⟩:=f.out
  by_cases K:4294967296<=q
  ·have M:=aA ((4294967296:N)<=(q:N))
   have p:=O (nG q r u a H o K);have s:=O g;clear g t f
   go_upto_region 20 with fail
   by_cases h:r=0
   ·have y:=az ((4294967296:N)<=(r:N)+4294967295)
    go_wp2_with fail
    refine⟨⟨q-1,r+4294967295,?_,?_,by omega,by omega,O (ig q r _ _ s.out p h)⟩,?_⟩
    ·exact jv (jb .u64) Y
    ·exact jv (jb .u64) Y
    simp only[jC];omega
   have y:=aA ((4294967296:N)<=(r:N)+4294967295)
   go_wp2_with fail
   go_meet
   exact⟨q-1,jv (jb .u64) Y,O (gW q r _ _ s.out o p h n),T⟩
  have M:=az ((4294967296:N)<=(q:N))
  by_cases x:4294967296*r+a<q*4294925032
  ·have P:=aA ((4294967296:N)*(r:N)+(a:N)<(q:N)*4294925032)
   have ay:1<=q:=Y;have p:=O (nR q r u a g x);have s:=O g;clear g t f x
   go_upto_region 20 with fail
   by_cases h:r=0
   ·have y:=az ((4294967296:N)<=(r:N)+4294967295)
    go_wp2_with fail
    refine⟨⟨q-1,r+4294967295,?_,?_,by omega,by omega,O (ig q r _ _ s.out p h)⟩,?_⟩
    ·exact jv (jb .u64) Y
    ·exact jv (jb .u64) Y
    simp only[jC];omega
   have y:=aA ((4294967296:N)<=(r:N)+4294967295)
   go_wp2_with fail
   go_meet
   exact⟨q-1,jv (jb .u64) Y,O (gW q r _ _ s.out o p h n),T⟩
  have P:=az ((4294967296:N)*(r:N)+(a:N)<(q:N)*4294925032);have Q:jm (q*18446744073709509352<=u*4294967296+a/\u*4294967296+a<(q+1)*18446744073709509352):=O ⟨nT q r _ _ g x,t⟩;clear g t f x
  go_wp2_with fail
  go_meet
  exact⟨q,T,Q,T⟩
 obtain⟨k,rfl,W,rfl⟩:=hcut;obtain⟨v,C⟩:∃v:I,v=u*4294967296+a-k*18446744073709509352:=⟨_,T⟩;obtain⟨E,R⟩:=t_v u a k v W.1 W.2 C;have X:=O R;clear C R;have E7:=t_w u a k v X E;obtain⟨C,R⟩:∃C:I,C=v/4294967295:=⟨_,T⟩;obtain⟨r2,S⟩:∃r2:I,r2=v%4294967295:=⟨_,T⟩;clear n D B f;obtain⟨E8,E9,n,D,B⟩:=nC v C r2 E R S;have f:jm (C*4294967295+r2=v/\v*4294967296+c<(C+1)*18446744073709509352):=O (by rw[R,S];exact nI v c V E);clear R S
 go_upto_block 2 with fail
 clear E7 E8 E9
 go_cut [18,16] (λm z F=>∃k:I,m=ja jk k/\jm (k*18446744073709509352<=v*4294967296+c/\v*4294967296+c<(k+1)*18446744073709509352)/\w=F)
 case first=>
  go_wp2_with fail
  go_loop [18,16] (λm z=>∃q r:I,m=ja jk q/\z=ja jk r/\q<=4294967297/\r<=4294967295/\jm (q*4294967295+r=v/\v*4294967296+c<(q+1)*18446744073709509352)) (λm _=>(jC m).toNat)
  case atStart=>exact⟨C,r2,T,T,n,by omega,f⟩
  clear n D B f;have H:=V;have o:=E;obtain⟨q,r,rfl,rfl,n,B,f⟩:=hrel;obtain⟨g,t⟩:=f.out
  by_cases K:4294967296<=q
  ·have M:=aA ((4294967296:N)<=(q:N))
   have p:=O (nG q r v c H o K);have s:=O g;clear g t f
   go_upto_region 27 with fail
   by_cases h:r=0
   ·have y:=az ((4294967296:N)<=(r:N)+4294967295)
    go_wp2_with fail
    refine⟨⟨q-1,r+4294967295,?_,?_,by omega,by omega,O (ig q r _ _ s.out p h)⟩,?_⟩
    ·exact jv (jb .u64) Y
    ·exact jv (jb .u64) Y
    simp only[jC];omega
   have y:=aA ((4294967296:N)<=(r:N)+4294967295)
   go_wp2_with fail
   go_meet
   exact⟨q-1,jv (jb .u64) Y,O (gW q r _ _ s.out o p h n),T⟩
  have M:=az ((4294967296:N)<=(q:N))
  by_cases x:4294967296*r+c<q*4294925032
  ·have P:=aA ((4294967296:N)*(r:N)+(c:N)<(q:N)*4294925032)
   have ay:1<=q:=Y;have p:=O (nR q r v c g x);have s:=O g;clear g t f x
   go_upto_region 27 with fail
   by_cases h:r=0
   ·have y:=az ((4294967296:N)<=(r:N)+4294967295)
    go_wp2_with fail
    refine⟨⟨q-1,r+4294967295,?_,?_,by omega,by omega,O (ig q r _ _ s.out p h)⟩,?_⟩
    ·exact jv (jb .u64) Y
    ·exact jv (jb .u64) Y
    simp only[jC];omega
   have y:=aA ((4294967296:N)<=(r:N)+4294967295)
   go_wp2_with fail
   go_meet
   exact⟨q-1,jv (jb .u64) Y,O (gW q r _ _ s.out o p h n),T⟩
  have P:=az ((4294967296:N)*(r:N)+(c:N)<(q:N)*4294925032);have Q:jm (q*18446744073709509352<=v*4294967296+c/\v*4294967296+c<(q+1)*18446744073709509352):=O ⟨nT q r _ _ g x,t⟩;clear g t f x
  go_wp2_with fail
  go_meet
  exact⟨q,T,Q,T⟩
 obtain⟨m,rfl,s,rfl⟩:=hcut;obtain⟨z,h⟩:∃z:I,z=(v*4294967296+c-m*18446744073709509352)/8:=⟨_,T⟩;obtain⟨t,x,p⟩:=te d j u l a c k m v z Y9 aa HU HL ad au X s.1 s.2 h;have y:((d*18446744073709551616+j)%2305843009213688669:I)=z:=by
  rw[t,ms,sn,j3 x]
 obtain⟨g,F⟩:∃g:I,g=8*z:=⟨_,T⟩;rw[<-F]at p;have K:=t_w v c m g p Y;have M:(g:N)/8=(z:N):=Y;have H:=O y;clear h t x p y F
 go_wp2_with fail
 go_ret2;rw[H];exact⟨_,T,jM _ _⟩
end DivQ
namespace DivS
theorem tW(w:jc):ju ji 242 #[ja jk 2305843009213688668] w λe w'=>e=js (ja jg 3)/\w=w':=by
 have a:=λw=>uv 2305843009213688668 G G w
 have e:bitLen (2305843009213688668:N).toNat=61:=by decide+kernel
 rw[e]at a
 go_enter func242,ntmps242
 go_wp2_with (go_at_call 144;refine(a _).mono ?_;rintro e w' ⟨rfl,rfl⟩)
 go_ret;exact⟨T,T⟩
theorem ig(q r u d:I)(a:q*4294967295+r=u)(b:u*4294967296+d<q*18446744073709509344)(c:r=0):(q-1)*4294967295+(r+4294967295)=u/\u*4294967296+d<(q-1+1)*18446744073709509344:=Y
theorem gW(q r u d:I)(a:q*4294967295+r=u)(b:u<18446744073709509344)(c:u*4294967296+d<q*18446744073709509344)(e:¬r=0)(f:q<=4294967297):(q-1)*18446744073709509344<=u*4294967296+d/\u*4294967296+d<(q-1+1)*18446744073709509344:=Y
theorem nG(q r u d:I)(a:d<=4294967295)(b:u<18446744073709509344)(c:4294967296<=q):u*4294967296+d<q*18446744073709509344:=Y
theorem nR(q r u d:I)(a:q*4294967295+r=u)(b:4294967296*r+d<q*4294925024):u*4294967296+d<q*18446744073709509344:=Y
theorem nT(q r u d:I)(a:q*4294967295+r=u)(b:¬4294967296*r+d<q*4294925024):q*18446744073709509344<=u*4294967296+d:=Y
theorem nI(u d:I)(a:d<=4294967295)(b:u<18446744073709509344):u/4294967295*4294967295+u%4294967295=u/\u*4294967296+d<(u/4294967295+1)*18446744073709509344:=Y
theorem t_v(u d k v:I)(a:k*18446744073709509344<=u*4294967296+d)(b:u*4294967296+d<(k+1)*18446744073709509344)(c:v=u*4294967296+d-k*18446744073709509344):v<18446744073709509344/\v+k*18446744073709509344=u*4294967296+d:=Y
theorem nC(v q r:I)(a:v<18446744073709509344)(b:q=v/4294967295)(c:r=v%4294967295):
 (v:N)/4294967295=(q:N)/\(v:N)-(q:N)*4294967295=(r:N)/\q<=4294967297/\(q:N)*4294967295<=(v:N)/\r<=4294967294:=Y
theorem t_w(u d k v:I)(a:v+k*18446744073709509344=u*4294967296+d)(b:v<18446744073709509344):
 jJ.wrap (jJ.wrap (jJ.wrap ((u:N)*4294967296)+(d:N))-jJ.wrap ((k:N)*18446744073709509344))=(v:N):=by
 simp only[p6];omega
theorem te(c b u l d a k m v z:I)(r:b<18446744073709551616)(s:c<2305843009213688668)(e:u=8*c+b/2305843009213693952)(f:l=b*8%18446744073709551616)(g:d=l/4294967296)(h:a=l%4294967296)
 (i:v+k*18446744073709509344=u*4294967296+d) (j:m*18446744073709509344<=v*4294967296+a) (n:v*4294967296+a<(m+1)*18446744073709509344) (o:z=(v*4294967296+a-m*18446744073709509344)/8):
 c*18446744073709551616+b=(k*4294967296+m)*2305843009213688668+z/\z<2305843009213688668/\8*z+m*18446744073709509344=v*4294967296+a:=by
 have p:l=d*4294967296+a:=Y;have q:u*18446744073709551616+l=8*(c*18446744073709551616+b):=Y;clear e f g h;obtain⟨h,e⟩:=J (v*4294967296+a);obtain⟨B,f⟩:=J (c*18446744073709551616+b);obtain⟨K,g⟩:=J (k*4294967296);have t:h+K*18446744073709509344=8*B:=Y;rw[<-e]at j n o;rw[<-e,<-f,<-g];clear i p q e f g;omega
theorem div64_0(a:I)(b:a<18446744073709551616)(w:jc):
 ju ji 189 #[ja jk 0,ja jk a,ja jk 2305843009213688668] w λe w'=>
  ∃q:N,e=js (jL #[ja jk q,ja jk ((a%2305843009213688668:I):N)])/\jn w w w':=by
 have c:(0:N)<=a:=Y
 go_enter qJ,qK
 go_upto_region 6 with fail
 go_quiet (fail)
 go_wp2
 go_ret2;exact⟨_,T,T,T,T,jA _,λ_ _=>rfl⟩
theorem div64_1(d j:I)(h0:1<=d)(aa:d<2305843009213688668)(Y9:j<18446744073709551616)(w:jc):
 ju ji 189 #[ja jk d,ja jk j,ja jk 2305843009213688668] w λe w'=>
  ∃q:N,e=js (jL #[ja jk q,ja jk (((d*18446744073709551616+j)%2305843009213688668:I):N)])/\jn w w w':=by
 obtain⟨u,k⟩:∃u:I,u=8*d+j/2305843009213693952:=⟨_,T⟩;obtain⟨l,m⟩:∃l:I,l=j*8%18446744073709551616:=⟨_,T⟩;obtain⟨a,g⟩:∃a:I,a=l/4294967296:=⟨_,T⟩;obtain⟨c,p⟩:∃c:I,c=l%4294967296:=⟨_,T⟩;obtain⟨q,s⟩:∃q:I,q=u/4294967295:=⟨_,T⟩;obtain⟨r,t⟩:∃r:I,r=u%4294967295:=⟨_,T⟩;have v:bits .and .u64 18446744073709509344 4294967295=4294925024:=by decide+kernel
 have x:bits .or .u64 ((d:N)*8) ((j:N)/2305843009213693952)=(u:N):=by
  have f:(d:N)*8=((d*8:I):N):=Y;have n:(j:N)/2305843009213693952=((j/2305843009213693952:I):N):=Y;rw[f,n,r6 _ _ Y Y,k];have h:=sl (i:=3) (b:=j/2305843009213693952) Y d;rw[show 2^3*d=d*8 by omega]at h;rw[<-h];omega
 have h:jJ.wrap ((j:N)*8)=(l:N):=by rw[p6,m];omega
 have y:(l:N)/4294967296=(a:N):=Y;have z:bits .and .u64 (l:N) 4294967295=(c:N):=by rw[pS l Y,p]
 have o:u<18446744073709509344:=Y;have U:a<=4294967295:=Y;have V:c<=4294967295:=Y;obtain⟨C,E,n,D,B⟩:=nC u q r o s t;have f:jm (q*4294967295+r=u/\u*4294967296+a<(q+1)*18446744073709509344):=O (by rw[s,t];exact nI u a U o);have HU:=O k;have HL:=O m;have ad:=O g;have au:=O p;clear k m g p s t;have ax:=O tW;have g:=az ((2305843009213688668:N)<=(d:N));have hd2:=az (d=0);have hd3:=az ((d:N)=0)
 go_enter qJ,qK
 go_upto_block 0 with(go_at_call 242;refine(ax _).mono ?_;rintro e w' ⟨rfl,rfl⟩)
 clear v x h y z C E g hd2 hd3
 go_cut [15,16] (λm z F=>∃k:I,m=ja jk k/\jm (k*18446744073709509344<=u*4294967296+a/\u*4294967296+a<(k+1)*18446744073709509344)/\w=F)
 case first=>
  go_wp2_with fail
  go_loop [15,16] (λm z=>∃q r:I,m=ja jk q/\z=ja jk r/\q<=4294967297/\r<=4294967295/\jm (q*4294967295+r=u/\u*4294967296+a<(q+1)*18446744073709509344)) (λm _=>(jC m).toNat)
  case atStart=>exact⟨q,r,T,T,n,by omega,f⟩
  clear n D B f;have H:=U;have o:=o;obtain⟨q,r,rfl,rfl,n,B,f⟩:=hrel;obtain⟨g,t⟩:=f.out
  by_cases K:4294967296<=q
  ·have M:=aA ((4294967296:N)<=(q:N))
   have p:=O (nG q r u a H o K);have s:=O g;clear g t f
   go_upto_region 20 with fail
   by_cases h:r=0
   ·have y:=az ((4294967296:N)<=(r:N)+4294967295)
    go_wp2_with fail
    refine⟨⟨q-1,r+4294967295,?_,?_,by omega,by omega,O (ig q r _ _ s.out p h)⟩,?_⟩
    ·exact jv (jb .u64) Y
    ·exact jv (jb .u64) Y
    simp only[jC];omega
   have y:=aA ((4294967296:N)<=(r:N)+4294967295)
   go_wp2_with fail
   go_meet
   exact⟨q-1,jv (jb .u64) Y,O (gW q r _ _ s.out o p h n),T⟩
  have M:=az ((4294967296:N)<=(q:N))
  by_cases x:4294967296*r+a<q*4294925024
  ·have P:=aA ((4294967296:N)*(r:N)+(a:N)<(q:N)*4294925024)
   have ay:1<=q:=Y;have p:=O (nR q r u a g x);have s:=O g;clear g t f x
   go_upto_region 20 with fail
   by_cases h:r=0
   ·have y:=az ((4294967296:N)<=(r:N)+4294967295)
    go_wp2_with fail
    refine⟨⟨q-1,r+4294967295,?_,?_,by omega,by omega,O (ig q r _ _ s.out p h)⟩,?_⟩
    ·exact jv (jb .u64) Y
    ·exact jv (jb .u64) Y
    simp only[jC];omega
   have y:=aA ((4294967296:N)<=(r:N)+4294967295)
   go_wp2_with fail
   go_meet
   exact⟨q-1,jv (jb .u64) Y,O (gW q r _ _ s.out o p h n),T⟩
  have P:=az ((4294967296:N)*(r:N)+(a:N)<(q:N)*4294925024);have Q:jm (q*18446744073709509344<=u*4294967296+a/\u*4294967296+a<(q+1)*18446744073709509344):=O ⟨nT q r _ _ g x,t⟩;clear g t f x
  go_wp2_with fail
  go_meet
  exact⟨q,T,Q,T⟩
 obtain⟨k,rfl,W,rfl⟩:=hcut;obtain⟨v,C⟩:∃v:I,v=u*4294967296+a-k*18446744073709509344:=⟨_,T⟩;obtain⟨E,R⟩:=t_v u a k v W.1 W.2 C;have X:=O R;clear C R;have E7:=t_w u a k v X E;obtain⟨C,R⟩:∃C:I,C=v/4294967295:=⟨_,T⟩;obtain⟨r2,S⟩:∃r2:I,r2=v%4294967295:=⟨_,T⟩;clear n D B f;obtain⟨E8,E9,n,D,B⟩:=nC v C r2 E R S;have f:jm (C*4294967295+r2=v/\v*4294967296+c<(C+1)*18446744073709509344):=O (by rw[R,S];exact nI v c V E);clear R S
 go_upto_block 2 with fail
 clear E7 E8 E9
 go_cut [18,16] (λm z F=>∃k:I,m=ja jk k/\jm (k*18446744073709509344<=v*4294967296+c/\v*4294967296+c<(k+1)*18446744073709509344)/\w=F)
 case first=>
  go_wp2_with fail
  go_loop [18,16] (λm z=>∃q r:I,m=ja jk q/\z=ja jk r/\q<=4294967297/\r<=4294967295/\jm (q*4294967295+r=v/\v*4294967296+c<(q+1)*18446744073709509344)) (λm _=>(jC m).toNat)
  case atStart=>exact⟨C,r2,T,T,n,by omega,f⟩
  clear n D B f;have H:=V;have o:=E;obtain⟨q,r,rfl,rfl,n,B,f⟩:=hrel;obtain⟨g,t⟩:=f.out
  by_cases K:4294967296<=q
  ·have M:=aA ((4294967296:N)<=(q:N))
   have p:=O (nG q r v c H o K);have s:=O g;clear g t f
   go_upto_region 27 with fail
   by_cases h:r=0
   ·have y:=az ((4294967296:N)<=(r:N)+4294967295)
    go_wp2_with fail
    refine⟨⟨q-1,r+4294967295,?_,?_,by omega,by omega,O (ig q r _ _ s.out p h)⟩,?_⟩
    ·exact jv (jb .u64) Y
    ·exact jv (jb .u64) Y
    simp only[jC];omega
   have y:=aA ((4294967296:N)<=(r:N)+4294967295)
   go_wp2_with fail
   go_meet
   exact⟨q-1,jv (jb .u64) Y,O (gW q r _ _ s.out o p h n),T⟩
  have M:=az ((4294967296:N)<=(q:N))
  by_cases x:4294967296*r+c<q*4294925024
  ·have P:=aA ((4294967296:N)*(r:N)+(c:N)<(q:N)*4294925024)
   have ay:1<=q:=Y;have p:=O (nR q r v c g x);have s:=O g;clear g t f x
   go_upto_region 27 with fail
   by_cases h:r=0
   ·have y:=az ((4294967296:N)<=(r:N)+4294967295)
    go_wp2_with fail
    refine⟨⟨q-1,r+4294967295,?_,?_,by omega,by omega,O (ig q r _ _ s.out p h)⟩,?_⟩
    ·exact jv (jb .u64) Y
    ·exact jv (jb .u64) Y
    simp only[jC];omega
   have y:=aA ((4294967296:N)<=(r:N)+4294967295)
   go_wp2_with fail
   go_meet
   exact⟨q-1,jv (jb .u64) Y,O (gW q r _ _ s.out o p h n),T⟩
  have P:=az ((4294967296:N)*(r:N)+(c:N)<(q:N)*4294925024);have Q:jm (q*18446744073709509344<=v*4294967296+c/\v*4294967296+c<(q+1)*18446744073709509344):=O ⟨nT q r _ _ g x,t⟩;clear g t f x
  go_wp2_with fail
  go_meet
  exact⟨q,T,Q,T⟩
 obtain⟨m,rfl,s,rfl⟩:=hcut;obtain⟨z,h⟩:∃z:I,z=(v*4294967296+c-m*18446744073709509344)/8:=⟨_,T⟩;obtain⟨t,x,p⟩:=te d j u l a c k m v z Y9 aa HU HL ad au X s.1 s.2 h;have y:((d*18446744073709551616+j)%2305843009213688668:I)=z:=by
  rw[t,ms,sn,j3 x]
 obtain⟨g,F⟩:∃g:I,g=8*z:=⟨_,T⟩;rw[<-F]at p;have K:=t_w v c m g p Y;have M:(g:N)/8=(z:N):=Y;have H:=O y;clear h t x p y F
 go_wp2_with fail
 go_ret2;rw[H];exact⟨_,T,jM _ _⟩
end DivS
section
variable{f:I}{a:I->Prop}{b:Type}{B w:jc}
structure bP(B0:I)(Ψ:I->Prop)(a B:jc):Prop where
 os:B.os=a.os
 tape:B.tape=a.tape
 output:B.output=a.output
 size:a.heap.size<=B.heap.size
 block:∀k,k<a.heap.size->¬Ψ k->(B.heap[k]?=a.heap[k]?\/(B0<=k/\∃o:Obj,a.heap[k]?=A o/\o.isCells=jz))
theorem bP.refl(B0:I)(Ψ:I->Prop)(a:jc):bP B0 Ψ a a:=⟨T,T,T,jA _,λ_ _ _=>.inl T⟩
theorem bP.ofBelow{d:I}(h:jn d w B)(b:∀k,k<w.heap.size->¬a k->k<d):bP f a w B:=
 ⟨h.os,h.tape,h.output,h.size,λk c n=>.inl (h.block k (b k c n))⟩
theorem bP.alloc(B0:I)(Ψ:I->Prop)(a:jc)(o:Obj):bP B0 Ψ a (a.alloc o):=
 ⟨rfl,rfl,rfl,by simp,λk b _=>.inl (jH _ _ _ b)⟩
theorem bP.putObj{d:I}{o:Obj}(b:Obj)(c:w.heap[d]?=A o)(l:o.isCells=jz)(B0:f<=d):bP f a w (w.putObj d b):=by
 refine⟨T,T,T,by simp[qY],λk g _=>?_⟩
 by_cases e:k=d
 ·subst e;exact .inr ⟨B0,o,c,l⟩
 exact .inl (ow e)
def bZ{β:Type}(B0:I)(c:β->(I->Prop)->jc->Prop):Prop:=
 ∀s Ψ a b B,c s Ψ b->bP B0 a b B->(∀k,Ψ k->a k)->(∀k,a k->Ψ k\/b.heap.size<=k)->c s a B
theorem bZ.and{a β:b->(I->Prop)->jc->Prop}(h:bZ f a)(j:bZ f β):bZ f (λs Ψ W=>a s Ψ W/\β s Ψ W):=
 λs Ψ c d B e B0 g i=>⟨h s Ψ c d B e.1 B0 g i,j s Ψ c d B e.2 B0 g i⟩
theorem bZ.keep{β:Type}{B0:I}{a:β->(I->Prop)->jc->Prop}(h:bZ B0 a){s:β}{Ψ:I->Prop}{b B:jc}(c:a s Ψ b)(d:bP B0 Ψ b B):a s Ψ B:=
 h s Ψ Ψ b B c d (λ_ h=>h) (λ_ h=>.inl h)
theorem bP.cells{B0:I}{Ψ:I->Prop}{b:jc}(h:bP B0 Ψ b B){k:I}{c:jt jh}{t:jq}{f:I×I}(a:b.heap[k]?=A (jj c t f))(g:¬Ψ k):B.heap[k]?=A (jj c t f):=by
 rcases h.block k (jQ.1 a).1 g with e|⟨_,o,d,i⟩
 ·exact e.trans a
 rw[a]at d;cases d;cases i
theorem bP.row{B0:I}{Ψ:I->Prop}{a:jc}(h:bP B0 Ψ a B){base:I}{e:jq}{size:I}{v:jh}{n:I}{xs:je jh}
 (b:a.ownsRow base e size v n xs) (c:∀j,v.ownBlock=A j->¬Ψ j):B.ownsRow base e size v n xs:=by
 refine⟨b.1,?_⟩
 rcases b.2 with d|⟨g,f,i,rfl,j,k,l⟩
 ·exact .inl d
 exact .inr ⟨g,f,i,T,j,h.cells k (c g T),l⟩
def gP(b:I)(t:jq)(base:I)(e:jq)(size n:I)(xs:je jh)(a:jh->Prop)(Ψ:I->Prop)(W:jc):Prop:=
 ∃v,jD W b t v/\¬Ψ b/\W.ownsRow base e size v n xs/\(∀j,v.ownBlock=A j->¬Ψ j)/\a v
theorem ni{β:Type}(B0 b:I)(t:jq)(base:I)(e:jq)(size:I)(n:β->I)(f:β->je jh)(o:β->jh->Prop):
 bZ B0 (λs Ψ W=>gP b t base e size (n s) (f s) (o s) Ψ W):=by
 rintro s Ψ a u B ⟨v,c,p,d,q,r⟩ g w i;have k:¬a b:=λh=>by rcases i _ h with h|h;exact p h;have:=c.lt;omega
 have l:∀j,v.ownBlock=A j->¬a j:=λj m h=>by
  rcases i _ h with h|h
  ·exact q j m h
  have:=(d.lt j m).2;omega
 exact⟨v,g.cells c k,k,g.row d l,l,r⟩
theorem iQ(B0 β:I)(t:jq)(f:b->jh):bZ B0 (λs Ψ W=>jD W β t (f s)/\¬Ψ β):=by
 rintro s Ψ d j B ⟨a,e⟩ g k i;have c:¬d β:=λh=>by rcases i _ h with h|h;exact e h;have:=a.lt;omega
 exact⟨g.cells a c,c⟩
theorem kK(B0 n:I)(w:jc)(i:n<=w.heap.size)(j:n<=B0):bZ B0 (fun(_:b) Ψ W=>jn n w W/\∀k,Ψ k->n<=k):=by
 rintro s Ψ d l B ⟨β,f⟩ a m g;have c:∀k,d k->n<=k:=λk h=>by
  rcases g _ h with h|h
  ·exact f k h
  have:=β.size;omega
 refine⟨β.trans ⟨a.os,a.tape,a.output,a.size,λk o=>?_⟩,c⟩
 rcases a.block k (cT β.size) (λh=>by have:=c k h;omega)with e|⟨h,_⟩
 ·exact e
 omega
theorem BS{r:jE I}(h:w.drew.grownBy B r):w.grownBy B r:=⟨h.os,h.tape,h.output,h.size,h.block⟩
theorem sB{a d:jc}{f b B0:I}{t e:jq}{size k m:I}{v c:jh}{xs ys:je jh}{q:Obj}{Ψ:I->Prop}
 (r:jD a b t v) (s:t≠e) (u:a.ownsRow f e size v k xs) (w:f<=a.heap.size) (y:f<=b) (i:¬Ψ b) (l:∀j,v.ownBlock=A j->¬Ψ j)
 (n:∀j,Ψ j->j<a.heap.size) (z:d.ownsRow f e size c m ys) (o:(a.alloc q).grownBy d v.ownBlock) (B:∀j,c.ownBlock=A j->v.ownBlock=A j\/j=a.heap.size+1):
 (qC B0 a (d.setCell ⟨b,0,jd⟩ c)/\jn f a (d.setCell ⟨b,0,jd⟩ c)/\∀k,Ψ k->(d.setCell ⟨b,0,jd⟩ c).heap[k]?=a.heap[k]?)/\
 gP b t f e size m ys (λx=>x=c) Ψ (d.setCell ⟨b,0,jd⟩ c):=by
 obtain⟨K,x,C,D,E⟩:=r.appended s u w y z o;refine⟨⟨D.from _,E,λk g=>?_⟩,c,x,i,C,λj F p=>?_,T⟩
 ·have H:=n k g
  rw[qe _ _ _ _ (show k≠b by rintro rfl;exact i g),o.block k (by simp;omega) (λh=>l k h.symm g),jH _ _ _ H]
 rcases B j F with h|h
 ·exact l j h p
 have:=n j p;omega
theorem fq(B0:I)(p:b->Prop):bZ B0 (λs _ _=>p s):=λ_ _ _ _ _ h _ _ _=>h
def eR{α:Type}(P:jI)(g:I)(lb:jt jh)(encs:α->jt jh)(h:I->Prop)(f:I)(S i V:je α->Prop)(w:jc):Prop:=
 ∀(l:I) (c d:je α->(I->Prop)->jc->Prop) (W:jc),jn w w W->bZ W.heap.size c->bZ W.heap.size d->
  (∀a x Ψ b,c a Ψ b->(∀k,Ψ k->k<b.heap.size)->V (a++[x])->YieldAt Fence.wide 0 P l (encs x) b λe B=>
   (e=js (.bool jf)/\c (a++[x]) Ψ B/\jn f b B/\∀k,Ψ k->B.heap[k]?=b.heap[k]?)\/(e=js (.bool jz)/\d (a++[x]) Ψ B/\jn f b B/\∀k,Ψ k->B.heap[k]?=b.heap[k]?))->
  c [] h W->
  ju P g (#[.func (.yield l) #[] #[]]++lb) W λe B=>(∃v,e=js v)/\((∃xs Ψ,S xs/\c xs Ψ B)\/(∃a Ψ,i a/\d a Ψ B))
def Aa{α:Type}(P:jI)(g:I)(lb:jt jh)(encs:α->jt jh)(h:I->Prop)(f:I)(S i:je α->Prop)(V j:je α->(I->Prop)->jc->Prop)(m:α->I->Prop)(w:jc):Prop:=
 ∀(l:I) (c d:je α->(I->Prop)->jc->Prop) (W:jc),jn w w W->bZ W.heap.size c->bZ W.heap.size d->(∀ys Ψ B,c ys Ψ B->j ys Ψ B)->
  (∀b x Ψ a,c b Ψ a->c b (λk=>Ψ k\/m x k) a->(∀k,Ψ k->k<a.heap.size)->V (b++[x]) Ψ a->YieldAt Fence.wide 0 P l (encs x) a λe B=>
   (e=js (.bool jf)/\c (b++[x]) Ψ B/\jn f a B/\∀k,Ψ k->B.heap[k]?=a.heap[k]?)\/(e=js (.bool jz)/\d (b++[x]) Ψ B/\jn f a B/\∀k,Ψ k->B.heap[k]?=a.heap[k]?))->
  c [] h W->
  ju P g (#[.func (.yield l) #[] #[]]++lb) W λe B=>(∃v,e=js v)/\((∃xs Ψ,S xs/\c xs Ψ B)\/(∃b Ψ,i b/\d b Ψ B))
theorem eR.v{α:Type}{P:jI}{g:I}{lb:jt jh}{encs:α->jt jh}{b:I}{S c V:je α->Prop}(h:eR P g lb encs a b S c V w):Aa P g lb encs a b S c (λys _ _=>V ys) (λ_ _ _=>True) (λ_ _=>False) w:=λl e f W i j k _ m=>h l e f W i j k λn x Ψ o d=>m n x Ψ o d (ak d)
def rj{α:Type}(B0 b:I)(d:je α->(I->Prop)->jc->Prop)(c:j0->je α->(I->Prop)->jc->Prop)(xs:je α)(Ψ:I->Prop)(a:jc):jT->Act->jc->Prop
 | .normal,_,B=>(qC B0 a B/\jn b a B/\∀k,Ψ k->B.heap[k]?=a.heap[k]?)/\d xs Ψ B
 | .ret,_,B=>(qC B0 a B/\jn b a B/\∀k,Ψ k->B.heap[k]?=a.heap[k]?)/\c .ret xs Ψ B
 | .exit e,_,B=>(qC B0 a B/\jn b a B/\∀k,Ψ k->B.heap[k]?=a.heap[k]?)/\c (.exit e) xs Ψ B
 | .goto t,_,B=>(qC B0 a B/\jn b a B/\∀k,Ψ k->B.heap[k]?=a.heap[k]?)/\c (.goto t) xs Ψ B
 | .panic _,_,_=>False
 | .outgrown,_,_=>False
def yM{α:Type}(B0 b:I)(d:je α->(I->Prop)->jc->Prop)(c:j0->je α->(I->Prop)->jc->Prop)(xs:je α)(Ψ:I->Prop)(a:jc):jT->Act->jc->Prop
 | .normal,_,B=>((B.heap[B0]?=a.heap[B0]?/\B.heap[B0+1]?=a.heap[B0+1]?)/\jn b a B/\∀k,Ψ k->B.heap[k]?=a.heap[k]?)/\d xs Ψ B
 | .ret,_,B=>((B.heap[B0]?=a.heap[B0]?/\B.heap[B0+1]?=a.heap[B0+1]?)/\jn b a B/\∀k,Ψ k->B.heap[k]?=a.heap[k]?)/\c .ret xs Ψ B
 | .exit e,_,B=>((B.heap[B0]?=a.heap[B0]?/\B.heap[B0+1]?=a.heap[B0+1]?)/\jn b a B/\∀k,Ψ k->B.heap[k]?=a.heap[k]?)/\c (.exit e) xs Ψ B
 | .goto t,_,B=>((B.heap[B0]?=a.heap[B0]?/\B.heap[B0+1]?=a.heap[B0+1]?)/\jn b a B/\∀k,Ψ k->B.heap[k]?=a.heap[k]?)/\c (.goto t) xs Ψ B
 | .panic _,_,_=>False
 | .outgrown,_,_=>False
theorem iy{d:I}{o:Obj}(b:f<=d):jn f w (w.putObj d o):=
 ⟨rfl,rfl,rfl,by simp[qY],λk c=>ow Y⟩
variable {P:jI}
theorem rj.two{d:I}{c:je b->(I->Prop)->jc->Prop}{B0:j0->je b->(I->Prop)->jc->Prop}{xs:je b}{Ψ:jT}{e:Act}{r:Loop}(g:w.heap[f]?=A (.deferred (A [])))(i:w.heap[f+1]?=A (.loop r))(h:rj f d c B0 xs a w Ψ e B):yM f d c B0 xs a w Ψ e B:=by
 cases Ψ<;>first
  |exact h
  |exact⟨⟨⟨(h.1.1.same _ _ (jA _) g T).trans g.symm,(h.1.1.same _ _ (Nat.le_succ _) i T).trans i.symm⟩,h.1.2⟩,h.2⟩
theorem rL{α:Type}{g:nn}{ps:jt Tmp}{assign body:j0}{ax:jT->Act->jc->Prop}{a:Act}{w:jc}{n:I}
 {gf:I} {lb:jt jh} (hg:a.eval g=.func (.func gf) #[] lb) (eg:∀args w,(qL gf args).run P w=.ok (.enter gf args) w)
 {encs:α->jt jh} {Ψ0:I->Prop} {H:I} {S Sp:je α->Prop} {V Uy:je α->(I->Prop)->jc->Prop} {Φ:α->I->Prop} (WY:Aa P gf lb encs Ψ0 H S Sp V Uy Φ w)
 (ZR:H<=w.heap.size) (bb:∀x,(encs x).size=ps.size) (Zw:∀k,Ψ0 k->k<w.heap.size)
 (i:je α->(I->Prop)->jc->Prop) (U:j0->je α->(I->Prop)->jc->Prop) (M:bZ w.heap.size i) (hG:∀ys Ψ B,i ys Ψ B->Uy ys Ψ B) (X:∀c,bZ w.heap.size (U c)) (h0:i [] Ψ0 w)
 (Ax:α->Act->(I->Prop)->jc->Prop) (bc:bZ w.heap.size (fun(s:α×Act) Ψ W=>Ax s.1 s.2 Ψ W))
 (bd:∀(l:I) (b:je α) (x:α) (Ψ:I->Prop) (d:jc) (K:Act->jc->Prop),i b Ψ d->i b (λk=>Ψ k\/Φ x k) d->V (b++[x]) Ψ d->(∀k,Ψ k->k<d.heap.size)->
  (∀z m,jn d d m->i b Ψ m->Ax x z Ψ m->K z m)->
  assign.wpIn (Fence.wide.inRound l) 0 P (Exit.then K (λ_ _ _=>False)) {tmps:=(ps.zip (encs x)).foldl (λt (p,v)=>t.setIfInBounds p v) a.tmps,defers:=[]} d)
 (bf:∀(l:I) (b:je α) (x:α) (Ψ:I->Prop) (z:Act) (d:jc),i b Ψ d->Ax x z Ψ d->(∃o e,V (b++[x]) o e)->(∀k,Ψ k->k<d.heap.size)->w.heap.size+2<=d.heap.size->l=w.heap.size+1->d.heap[w.heap.size]?=A (.deferred (A []))->(∃r,d.heap[w.heap.size+1]?=A (.loop r))->
  body.wpIn (Fence.wide.inRound l) 0 P (yM w.heap.size H i U (b++[x]) Ψ d) z d)
 (bg:∀(D:I) (xs:je α) (Ψ:I->Prop) (W:jc),D=w.heap.size->S xs->i xs Ψ W->W.heap[D]?=A (.deferred (A []))->ax .normal {a with defers:={target:=.collected D,args:=#[]}::a.defers} W)
 (bh:∀(D:I) (c:j0) (b:je α) (Ψ:I->Prop) (W:jc),D=w.heap.size->Sp b->U c b Ψ W->W.heap[D]?=A (.deferred (A []))->c.wpIn Fence.wide n P ax {a with defers:={target:=.collected D,args:=#[]}::a.defers} W):
 (Code.rangeFunc g ps assign body).wpIn Fence.wide n P ax a w:=by
 refine wpIn_rangeFunc ?_;intro fn bi;obtain⟨f,l⟩:∃f:LoopState->jE j0->Loop,f=λK Q=>{state:=K,pending:=Q,fn,tmps:=a.tmps,params:=ps,assign,body,defers:=w.heap.size}:=⟨_,T⟩
 obtain⟨j,R⟩:∃j,(w.alloc (.deferred (A []))).alloc (.loop (f .ready jd))=j:=⟨_,T⟩;have bw:j.heap.size=w.heap.size+2:=by rw[<-R];simp
 have bk:j.heap[w.heap.size+1]?=A (.loop (f .ready jd)):=by
  rw[<-R];have:=jO (w.alloc (.deferred (A []))) (.loop (f .ready jd));rwa [j8]at this
 have bl:j.heap[w.heap.size]?=A (.deferred (A [])):=by
  rw[<-R];exact(jH _ _ _ ar).trans (jO w _)
 have bm:i [] Ψ0 j:=by rw[<-R];exact M.keep (M.keep h0 (bP.alloc _ _ _ _)) (bP.alloc _ _ _ _)
 have bn:jn w w j:=by
  rw[<-R];exact(((jM _ w).alloc (jA _) _).alloc ar _)
 let Bk (K:LoopState) (Q:jE j0) (Ψ:I->Prop) (W:jc):Prop:=
  W.heap[w.heap.size+1]?=A (.loop (f K Q))/\W.heap[w.heap.size]?=A (.deferred (A []))/\¬Ψ w.heap.size/\¬Ψ (w.heap.size+1)
 have a5:∀K Q,bZ j.heap.size (fun(_:je α) Ψ W=>Bk K Q Ψ W):=by
  rintro K Q s Ψ o d B ⟨p,q,C,D⟩ e E r;have ay:=(jQ.1 p).1;have u:¬o w.heap.size:=λh=>by rcases r _ h with h|h;exact C h;omega
  have y:¬o (w.heap.size+1):=λh=>by rcases r _ h with h|h;exact D h;omega
  refine⟨?_,?_,u,y⟩
  ·rcases e.block _ ay y with h|⟨h,_⟩
   ·exact h.trans p
   omega
  rcases e.block _ Y u with h|⟨h,_⟩
  ·exact h.trans q
  omega
 have up:∀{β:Type} {i:β->(I->Prop)->jc->Prop},bZ w.heap.size i->bZ j.heap.size i:=by
  intro β i h s Ψ o d B r e p q;refine h s Ψ o d B r ⟨e.os,e.tape,e.output,e.size,λk D C=>?_⟩ p q
  rcases e.block k D C with h|⟨h,u⟩
  ·exact .inl h
  exact .inr ⟨by omega,u⟩
 have bo:bZ j.heap.size (fun(b:je α) Ψ W=>∃c,U c b Ψ W/\Bk .done (A c) Ψ W):=by
  rintro s Ψ o d B ⟨c,r,u⟩ e p q;exact⟨c,up (X c) s Ψ o d B r e p q,a5 _ _ s Ψ o d B u e p q⟩
 refine⟨w.heap.size+1,[{target:=.collected w.heap.size,args:=#[]}],j,{target:=.fn (.func gf) lb,args:=#[.func (.yield (w.heap.size+1)) #[] #[]]},j,gf,
  #[.func (.yield (w.heap.size+1)) #[] #[]]++lb,j,?_,?_,?_,?_,?_,?_⟩
 ·rw[<-R,l];exact run_enterLoop_outer _ _ _ _ _
 ·simp only[resolve,hg]
  simp[go_sem]
 ·intro e d;simp[Target.leads]at d;subst d;trivial
 ·simp[invoke,go_sem,eg]
 ·intro h;simp[Fence.wide]at h
 refine callsIn_wide.2 ((WY (w.heap.size+1) (λb Ψ W=>i b Ψ W/\Bk .ready jd Ψ W) (λb Ψ W=>∃c,U c b Ψ W/\Bk .done (A c) Ψ W) j bn
  ((up M).and (a5 _ _)) bo (λys Ψ B h=>hG ys Ψ B h.1) ?_ ⟨bm,bk,bl,λh=>by have:=Zw _ h;omega,λh=>by have:=Zw _ h;omega⟩).mono ?_)
 ·
  rintro b x Ψ W ⟨hi,q,D,hd,aa⟩ ⟨bp,-⟩ a1 a6;have ay:w.heap.size+1<W.heap.size:=(jQ.1 q).1;have hy:=run_yield (P:=P) (args:=encs x) q (by rw[l];exact bb x);rw[l]at hy;refine⟨fn,_,assign,body,hy,roundIn_of_wpIn bi (bd _ b x Ψ W _ hi bp a6 a1 ?_)⟩;intro z m ad bq br;have a2:m.heap[w.heap.size+1]?=A (.loop (f .ready jd)):=(ad.block _ ay).trans q;have bs:m.heap[w.heap.size]?=A (.deferred (A [])):=(ad.block _ Y).trans D;have bu:w.heap.size+1<m.heap.size:=(jQ.1 a2).1;refine⟨_,run_beginRound a2 (by rw[l]),?_⟩;have a3:(m.putObj (w.heap.size+1) (.loop {f .ready jd with state:=.busy})).heap[w.heap.size+1]?=A (.loop {f .ready jd with state:=.busy}):=xD bu;have a4:(m.putObj (w.heap.size+1) (.loop {f .ready jd with state:=.busy})).heap[w.heap.size]?=A (.deferred (A [])):=(ow Y).trans bs;have t2:bP w.heap.size Ψ m (m.putObj (w.heap.size+1) (.loop {f .ready jd with state:=.busy})):=bP.putObj _ a2 T Y;refine wpIn_mono (bf _ b x Ψ z _ (M.keep bq t2) (bc.keep (s:=(x,z)) br t2) ⟨_,_,a6⟩ (λk B=>by have:=a1 k B;have:=ad.size;simp[qY];omega) (by simp[qY];omega) T a4 ⟨_,a3⟩) ?_;obtain⟨r,WG⟩:∃r,m.putObj (w.heap.size+1) (.loop {f .ready jd with state:=.busy})=r:=⟨_,T⟩;have ba:jn H W r:=by rw[<-WG];exact(ad.mono Y).trans (iy Y)
  have bv:∀k,Ψ k->k<W.heap.size->r.heap[k]?=W.heap[k]?:=by
   intro k B E;rw[<-WG,ow (by intro e;subst e;exact aa B),ad.block k E]
  have bA:W.heap.size<=r.heap.size:=ba.size;rw[WG]at a3 a4⊢;have au:∀(h:jE j0) (d:jc),((d.heap[w.heap.size]?=r.heap[w.heap.size]?/\d.heap[w.heap.size+1]?=r.heap[w.heap.size+1]?)/\jn H r d/\∀k,Ψ k->d.heap[k]?=r.heap[k]?)->
   (Instr.endRound (w.heap.size+1) h).run P d=.ok (.bool h.isNone) (d.putObj (w.heap.size+1) (.loop (f (if h.isNone then .ready else .done) h)))/\
   bP w.heap.size Ψ d (d.putObj (w.heap.size+1) (.loop (f (if h.isNone then .ready else .done) h)))/\
   Bk (if h.isNone then .ready else .done) h Ψ (d.putObj (w.heap.size+1) (.loop (f (if h.isNone then .ready else .done) h)))/\
   jn H W (d.putObj (w.heap.size+1) (.loop (f (if h.isNone then .ready else .done) h)))/\
   ∀k,Ψ k->(d.putObj (w.heap.size+1) (.loop (f (if h.isNone then .ready else .done) h))).heap[k]?=W.heap[k]?:=by
   rintro h d ⟨o,u,y⟩;have F:=o.2.trans a3;have p:=run_endRound (P:=P) h F;rw[l]at p⊢;refine⟨p,bP.putObj _ F T Y,⟨?_,(ow Y).trans (o.1.trans a4),hd,aa⟩,(ba.trans u).trans (iy Y),λk B=>?_⟩
   ·rw[l];exact xD (jQ.1 F).1
   rw[ow (by intro e;subst e;exact aa B),y k B]
   by_cases E:k<W.heap.size
   ·exact bv k B E
   exact qk (a1 k B) E
  rintro e bB d C
  cases e with
  |normal=>
   obtain⟨o,B⟩:=C;obtain⟨p,E,u,F,y⟩:=au jd d o;exact⟨_,_,p,.inl ⟨T,⟨M.keep B E,u⟩,F,y⟩⟩
  |ret=>
   obtain⟨o,B⟩:=C;obtain⟨p,E,u,F,y⟩:=au (A .ret) d o;exact⟨_,_,p,.inr ⟨T,⟨.ret,(X _).keep B E,u⟩,F,y⟩⟩
  |exit id=>
   obtain⟨o,B⟩:=C;obtain⟨p,E,u,F,y⟩:=au (A (.exit id)) d o;exact⟨_,_,p,.inr ⟨T,⟨.exit id,(X _).keep B E,u⟩,F,y⟩⟩
  |goto t=>
   obtain⟨o,B⟩:=C;obtain⟨p,E,u,F,y⟩:=au (A (.goto t)) d o;exact⟨_,_,p,.inr ⟨T,⟨.goto t,(X _).keep B E,u⟩,F,y⟩⟩
  |panic o=>exact C.elim
  |outgrown=>exact C.elim
 
 rintro e k ⟨⟨v,rfl⟩,(⟨xs,Ψ,d,hi,q,D,hd,aa⟩|⟨b,Ψ,h,c,hi,q,D,hd,aa⟩)⟩
 ·exact⟨jd,_,by have:=run_endLoop (P:=P) q (by rw[l];simp);rw[l]at this;exact this,bg _ xs Ψ _ T d (M.keep hi (bP.putObj _ q T Y)) ((ow Y).trans D)⟩
 exact⟨A c,_,by have:=run_endLoop (P:=P) q (by rw[l];simp);rw[l]at this;exact this,bh _ c b Ψ _ T h ((X c).keep hi (bP.putObj _ q T Y)) ((ow Y).trans D)⟩
theorem ru{α:Type}{g:nn}{q:jt Tmp}{assign body:j0}{u:jT->Act->jc->Prop}{a:Act}{w:jc}{n:I}
 {gf:I} {lb:jt jh} (E:a.eval g=.func (.func gf) #[] lb) (F:∀args w,(qL gf args).run P w=.ok (.enter gf args) w)
 {encs:α->jt jh} {y:I->Prop} {z:I} {S C V:je α->Prop} (H:eR P gf lb encs y z S C V w)
 (M:z<=w.heap.size) (Q:∀x,(encs x).size=q.size) (R:∀k,y k->k<w.heap.size)
 (f:je α->(I->Prop)->jc->Prop) (m:j0->je α->(I->Prop)->jc->Prop) (U:bZ w.heap.size f) (X:∀c,bZ w.heap.size (m c)) (h0:f [] y w)
 (o:α->Act->(I->Prop)->jc->Prop) (aa:bZ w.heap.size (fun(s:α×Act) Ψ W=>o s.1 s.2 Ψ W))
 (s:∀(l:I) (b:je α) (x:α) (Ψ:I->Prop) (d:jc) (K:Act->jc->Prop),f b Ψ d->V (b++[x])->
  (∀i e,jn d d e->f b Ψ e->o x i Ψ e->K i e)->
  assign.wpIn (Fence.wide.inRound l) 0 P (Exit.then K (λ_ _ _=>False)) {tmps:=(q.zip (encs x)).foldl (λt (p,v)=>t.setIfInBounds p v) a.tmps,defers:=[]} d)
 (t:∀(l:I) (b:je α) (x:α) (Ψ:I->Prop) (i:Act) (d:jc),f b Ψ d->o x i Ψ d->V (b++[x])->(∀k,Ψ k->k<d.heap.size)->w.heap.size<=d.heap.size->(∃r,d.heap[l]?=A (.loop r))->
  body.wpIn (Fence.wide.inRound l) 0 P (rj w.heap.size z f m (b++[x]) Ψ d) i d)
 (v:∀(D:I) (xs:je α) (Ψ:I->Prop) (W:jc),w.heap.size<=D->S xs->f xs Ψ W->W.heap[D]?=A (.deferred (A []))->u .normal {a with defers:={target:=.collected D,args:=#[]}::a.defers} W)
 (ad:∀(D:I) (c:j0) (b:je α) (Ψ:I->Prop) (W:jc),w.heap.size<=D->C b->m c b Ψ W->W.heap[D]?=A (.deferred (A []))->c.wpIn Fence.wide n P u {a with defers:={target:=.collected D,args:=#[]}::a.defers} W):
 (Code.rangeFunc g q assign body).wpIn Fence.wide n P u a w:=by
 refine rL E F H.v M Q R f m U (λ_ _ _ _=>trivial) X h0 o aa (λl b x Ψ d K p _ j _ e=>s l b x Ψ d K p j e) (λl b x Ψ i d p K j hΨ e h h1 k=>?_) (λD xs Ψ W e=>v D xs Ψ W (qO e.symm)) (λD c b Ψ W e=>ad D c b Ψ W (qO e.symm));obtain⟨-,-,j⟩:=j;obtain⟨r,k⟩:=k;exact wpIn_mono (t l b x Ψ i d p K j hΨ Y ⟨r,by rw[h];exact k⟩) λe a B h=>rj.two h1 k h
end
section
variable{f i:I}
section
variable {P:jI} {ops:jt jy} {Q:jT->Act->jc->Prop} {md:Region.Mode} {S:jc->Prop}
def rR(ops:jt jy):jw:=ops.all λo=>match o.op with| .defer .. =>jz|_=>jf
theorem Rw(h:rR ops=jf)(j:I)(o:jy)(c:Call)(a:ops[j]?=A o):o.op≠.defer c:=by
 intro b;have:=qf.1 h o (Array.mem_of_getElem? a);simp[b]at this
theorem Kc{f i d:I}(e:¬LetsOut Q)(g:rR ops=jf){K:Act->jc->Prop}{a:Act}{w:jc}
 (h:jK P ops Q d K a w):wpOpIn (Fence.wide.inRound f) i P ops Q d K a w:=by
 unfold jK at h;unfold wpOpIn
 cases ho:ops[d]? with
 |none=>simpa [ho]using h
 |some o=>
  simp only[ho]at h⊢
  split
  ·rename_i b
   simp only[b,if_true]at h
   rcases h with h|⟨_,j⟩
   ·refine⟨λ_ _=>trivial,?_⟩
    show o.uponIn (Fence.wide.inRound f) i P a K Q ((o.semAt (A f) a.eval).run P w);rw[Oper.semAt_eq _ _ _ (λc=>Rw g d o c ho)];unfold Oper.wp at h;generalize(jV a.eval o).run P w=r at*
    cases r with
    |ok x w'=>
     cases x<;>simp only[Oper.upon]at h<;>simp only[Oper.uponIn]
     case value u=>exact h
     case skip=>exact h
     case defer n=>exact h
     case enter l args=>exact⟨by simp[Fence.inRound,Fence.wide],CallsIn.inRound f (callsIn_wide.2 h)⟩
     case row row args=>exact⟨by simp[Fence.inRound,Fence.wide],λc k _=>by
      obtain⟨v,m,r,s⟩:=h c k;exact⟨v,m,r,stepsIn_wide.2 s⟩⟩
    |halt x w'=>cases x<;>simp only[Oper.upon]at h<;>simp only[Oper.uponIn]<;>exact h
   exact qk j e
  rename_i b;simp only[b]at h;exact⟨λ_ _=>trivial,h⟩
theorem yC{f i:I}(b:¬LetsOut Q)(c:rR ops=jf):∀(fuel:I) (d:jt jw) (a:Act) (w:jc),
 wpAny P md ops Q fuel d a w->wpAnyIn (Fence.wide.inRound f) i P md ops Q fuel d a w
 |0,_,_,_,h=>h
 |fuel+1,_,_,_,h=>⟨h.1,λn e=>Kc b c (j1 (λl w' g=>yC b c fuel _ l w' g) (h.2 n e))⟩
def iM(md:Region.Mode)(ops:jt jy)(a:jt jw):Prop:=∀(j:I) b,ops[j]?=A b->a.getD j jz=jf->∀e∈b.after,Region.binds md e=jf->a.getD e.on jz=jf
theorem JM{a:jt jw}(h:a.getD i jz=jf):(a.setIfInBounds f jf).getD i jz=jf:=by
 rw[qH]at h⊢;rw[Array.getElem?_setIfInBounds]
 split
 ·rename_i e
  subst e
  split
  ·rfl
  rename_i b;rw[sq Y]at h
  cases h
 exact h
theorem iM.zero(n:I):iM md ops (qg n jz):=λj a _ h=>by
 rw[qH,Array.getElem?_replicate]at h
 split at h<;>cases h
theorem iM.set{a:jt jw}(h:iM md ops a)(g:i∈Region.ready md ops a):iM md ops (a.setIfInBounds i jf):=by
 intro j k b l e he c;refine JM ?_
 by_cases d:j=i
 ·subst d
  obtain⟨-,o,f,m⟩:=mem_ready.1 g;rw[b]at f
  cases f
  exact m e he c
 refine h j k b ?_ e he c
 rwa [qH,xE (Ne.symm d),<-qH]at l
def o7(md:Region.Mode)(ops:jt jy):I->I->I->jw
 |0,_,_=>jz
 |n+1,j,i=>match ops[j]? with|none=>jz|some o=>o.after.any λe=>Region.binds md e&&(e.on==i||o7 md ops n e.on i)
theorem Ic{a:jt jw}(c:iM md ops a){i:I}:∀(n j:I) b,ops[j]?=A b->(∀e∈b.after,Region.binds md e=jf->a.getD e.on jz=jf)->o7 md ops n j i=jf->a.getD i jz=jf
 |0,_,_,_,_,h=>by cases h
 |n+1,j,b,d,f,h=>by
  rw[o7,d]at h;simp only[Array.any_eq_true',jZ,qZ,beq_iff_eq]at h;obtain⟨e,he,g,h⟩:=h;have k:=f e he g
  rcases h with h|h
  ·rwa [<-h]
  cases hk:ops[e.on]? with
  |none=>cases n<;>simp[o7,hk]at h
  |some ok=>exact Ic c n e.on ok hk (c e.on ok hk k) h
def ik(P:jI)(md:Region.Mode)(ops:jt jy)(Q:jT->Act->jc->Prop)(S:jc->Prop)(f:I):I->jt jw->Act->jc->Prop
 |0,b,a,w=>Region.ready md ops b=[]/\Q .normal a w
 |fuel+1,b,a,w=>iM md ops b->
  (Region.ready md ops b=[]->Q .normal a w)/\
  ∀i∈Region.ready md ops b,jK P ops Q i (λc w'=>(f<=i\/S w')/\ik P md ops Q S f fuel (b.setIfInBounds i jf) c w') a w
theorem rS:∀(fuel:I) (b:jt jw) (a:Act) (w:jc),iM md ops b->ik P md ops Q S f fuel b a w->wpAny P md ops Q fuel b a w
 |0,_,_,_,_,h=>h
 |fuel+1,_,_,_,c,h=>⟨(h c).1,λi d=>j1 (λe w' g=>rS fuel _ e w' (c.set d) g.2) ((h c).2 i d)⟩
def Ti(P:jI)(r:Result Next)(v:jh)(w:jc):Prop:=
 r=.ok (.value v) w\/∃f args,r=.ok (.enter f args) w/\ju P f args w λe w'=>e=js v/\w'=w
def fR(P:jI)(ops:jt jy)(S:jc->Prop)(o:jy)(v:jh)(a:Act):Prop:=
 (Region.wanted o (jX ops a.tmps)=jf/\∀w,S w->Ti P ((jV a.eval o).run P w) v w)\/
 (Region.wanted o (jX ops a.tmps)=jz/\v=jB)
theorem fR.wpOp{o:jy}{a:jh}{v:Act}(d:ops[f]?=A o)(g:fR P ops S o a v)
 {K:Act->jc->Prop} {w:jc} (j:S w) (h:K (v.put o.dst a) w):jK P ops Q f K v w:=by
 unfold Go.wpOp;simp only[d]
 rcases g with⟨b,k⟩|⟨b,rfl⟩
 ·simp only[b,if_true]
  refine .inl ?_;unfold Oper.wp
  rcases k w j with c|⟨i,args,c,l⟩
  ·rw[c];exact h
  rw[c];simp only[Oper.upon];refine l.mono ?_;rintro e w' ⟨rfl,rfl⟩;exact h
 simp only[b,Bool.false_eq_true,if_false];exact h
theorem fR.of_same{o:jy}{a:jh}{v b:Act}(c:fR P ops S o a v)(he:jV b.eval o=jV v.eval o)
 (d:Region.wanted o (jX ops b.tmps)=Region.wanted o (jX ops v.tmps)):fR P ops S o a b:=by
 unfold fR at*;rw[he,d];exact c
theorem Nh{b:jy}(i:ops[f]?=A b){K:Act->jc->Prop}{a:Act}{w:jc}(h:jK P ops Q f K a w):
 jK P ops Q f (λc w'=>(∃d u,c=Act.put {a with defers:=d} b.dst u)/\K c w') a w:=by
 unfold jK at*;simp only[i]at*
 split
 ·rename_i g
  simp only[g,if_true]at h
  rcases h with h|h
  case inr=>exact .inr h
  refine .inl ?_;unfold Oper.wp at*;generalize(jV a.eval b).run P w=r at*
  cases r with
  |halt x w'=>cases x<;>exact h
  |ok n w'=>
   cases n<;>simp only[Oper.upon]at h⊢
   case value u=>exact⟨⟨a.defers,u,T⟩,h⟩
   case skip=>exact⟨⟨a.defers,jB,T⟩,h⟩
   case defer d=>exact⟨⟨d::a.defers,jB,T⟩,h⟩
   case enter j args=>
    refine Calls.mono h λe k he=>?_
    cases e with
    |returned u=>exact⟨⟨a.defers,u,T⟩,he⟩
    |panicked c=>exact he
    |outgrown=>exact he
   case row row args=>exact Rows.mono h λu k he=>⟨⟨a.defers,u,T⟩,he⟩
 rename_i g;simp only[g]at h;exact⟨⟨a.defers,jB,T⟩,h⟩
theorem Ri{e j:jy}{a:jh}(g:ops[f]?=A j)(i:e.apart ops j=jf)
 (k:∀v b,e.op≠.select v b) (m:∀v b,j.op≠.select v b)
 (n:∀c v w,Q (.panic c) (v.put e.dst a) w->Q (.panic c) v w) {K:Act->jc->Prop} {v:Act} {w:jc}
 (c:fR P ops S e a v) (h:jK P ops Q f K (v.put e.dst a) w):
 jK P ops Q f (λb w'=>fR P ops S e a b/\K (b.put e.dst a) w') v w:=by
 have o:YieldsIf P ops (λ_=>False) e a v:=c.imp (fun⟨h,_⟩=>⟨h,λ_ h=>h.elim⟩) id;obtain⟨_,_,l⟩:=Oper.apart_spec i;refine j1 (λb w' h=>?_) (Nh g (wpOp_putIf g i k m n o h));obtain⟨⟨d,u,rfl⟩,_,b⟩:=h;have p:fR P ops S e a {v with defers:=d}:=c.of_same T T;exact⟨p.of_same (execOp_put e k _ j.dst u l) (wanted_put e _ j.dst u l),b⟩
theorem wh{f:I}{q:jy}{a:jh}(y:ops[i]?=A q)(B:∀(j:I) (o:jy) r b,ops[j]?=A o->o.op≠.select r b)
 (R:∀c v d a w,Q (.panic c) (Act.put v d a) w->Q (.panic c) v w):∀(fuel:I) (g:jt jw) (v:Act) (w:jc),
  (∀j l,ops[j]?=A l->j≠i->g.getD j jf=jz->(∀e∈l.after,Region.binds md e=jf->e.on≠i)->q.apart ops l=jf)->
  (∀(j:I) l,ops[j]?=A l->f<=j->j≠i->∃n,o7 md ops n j i=jf)->
  i∈Region.ready md ops g->fR P ops S q a v->S w->
  ik P md ops Q S f fuel (g.setIfInBounds i jf) (v.put q.dst a) w->ik P md ops Q S f (fuel+1) g v w:=by
 intro fuel
 induction fuel with
 |zero=>
  intro g v w _ _ m u s H;refine λz=>⟨λh=>(by rw[h]at m;cases m),λj x=>?_⟩
  by_cases o:j=i
  ·rw[o];exact u.wpOp y s ⟨.inr s,H⟩
  have d:=ready_mono x o;rw[H.1]at d
  cases d
 |succ fuel U=>
  intro g v w C D m u s H;refine λz=>⟨λh=>(by rw[h]at m;cases m),λj x=>?_⟩
  by_cases o:j=i
  ·rw[o];exact u.wpOp y s ⟨.inr s,H⟩
  obtain⟨E,l,t,F⟩:=mem_ready.1 x;have V:∀e∈l.after,Region.binds md e=jf->e.on≠i:=λe he W X=>by
   have d:=F e he W;have p:=(mem_ready.1 m).1;rw[X]at d
   rcases qI i g.size with k|k
   ·simp[k]at p d;rw[p]at d;cases d
   simp[sq k]at d
  have aa:∀k ok,ops[k]?=A ok->k≠i->(g.setIfInBounds j jf).getD k jf=jz->
   (∀e∈ok.after,Region.binds md e=jf->e.on≠i)->q.apart ops ok=jf:=λk ok hk Wb K ad=>by
   refine C k ok hk Wb ?_ ad
   by_cases M:j=k
   ·rw[<-M];exact E
   rw[getD_set_ne jf M]at K;exact K
  have K:i∈Region.ready md ops (g.setIfInBounds j jf):=ready_mono m (Ne.symm o);refine j1 (λM w' h3=>?_) (Ri t (C j l t o E V) (λr b=>B i q r b y) (λr b=>B j l r b t) (λc v w=>R c v _ _ w) u ((H (z.set m)).2 j (ready_mono x o)));obtain⟨ad,au,h4⟩:=h3;have r:S w':=by
   rcases au with c|c
   ·obtain⟨n,hn⟩:=D j l t c o
    have d:=Ic z n j l t F hn;have p:=(mem_ready.1 m).1;rw[qH]at p d
    cases hq:g[i]? with
    |none=>rw[hq]at d;cases d
    |some b=>rw[hq]at p d;simp at p d;rw[p]at d;cases d
   exact c
  refine⟨.inr r,U (g.setIfInBounds j jf) M w' aa D K ad r ?_⟩;rw[xG _ _ o];exact h4
theorem YieldsIf.q{o:jy}{v:jh}{a:Act}(h:YieldsIf P ops S o v a):fR P ops S o v a:=h.imp (fun⟨b,c⟩=>⟨b,λw d=>.inl (c w d)⟩) id
def AE(md:Region.Mode)(ops:jt jy)(f i:I):jw:=
 (List.range ops.size).all λj=>decide (j<f)||j==i||o7 md ops 4 j i
theorem Fp(h:AE md ops f i=jf):∀(j:I) b,ops[j]?=A b->f<=j->j≠i->∃n,o7 md ops n j i=jf:=by
 intro j b c e d;have a:=xH.1 h j (xI.2 (jQ.1 c).1);simp only[qZ,decide_eq_true_eq,beq_iff_eq,d,or_false]at a
 rcases a with a|a
 ·omega
 exact⟨4,a⟩
theorem Ed(j:I)(a:jy)(b:ops[j]?=A a)(h:ops.size<=j):False:=by
 have:=(jQ.1 b).1;omega
def lC(md:Region.Mode)(ops:jt jy)(f:I):je (I×jw)->jt jw->jw
 |[],a=>Region.ready md ops a==[]
 |(i,jf)::b,a=>Region.free md ops a i&&(Region.ready md ops a).contains i&&AE md ops f i&&lC md ops f b (a.setIfInBounds i jf)
 |(i,jz)::b,a=>Region.ready md ops a==[i]&&lC md ops f b (a.setIfInBounds i jf)
def ze(f:I)(l:je (I×jw)):jw:=l.all λx=> !x.2&&decide (f<=x.1)
def gF(P:jI)(ops:jt jy)(Q:jT->Act->jc->Prop)(S:jc->Prop)(f:I):je (I×jw)->Act->jc->Prop
 |[],a,w=>Q .normal a w
 |(i,jf)::b,a,w=>∃o v,ops[i]?=A o/\fR P ops S o v a/\gF P ops Q S f b (a.put o.dst v) w
 |(i,jz)::b,a,w=>jK P ops Q i (λc w'=>(f<=i/\ze f b=jf/\gF P ops Q S f b c w')\/(S w'/\(S w'->gF P ops Q S f b c w'))) a w
theorem tS{f:I}(k:Region.noSelect ops=jf)(m:∀c a d v w,Q (.panic c) (Act.put a d v) w->Q (.panic c) a w):
 ∀(l:je (I×jw)) (c:jt jw) (a:Act) (w:jc),lC md ops f l c=jf->(ze f l=jf\/S w)->gF P ops Q S f l a w->ik P md ops Q S f l.length c a w
 |[],c,a,w,b,_,h=>⟨by simpa [lC]using b,h⟩
 |(i,jf)::e,c,a,w,b,g,⟨o,v,n,q,h⟩=>by
  have g:S w:=g.resolve_left (by simp[ze]);simp only[lC,jZ]at b;exact wh n (Region.noSelect_spec k) m e.length c a w (Region.free_spec n b.1.1.1) (Fp b.1.2) (ak b.1.1.2) q g (tS k m e _ _ _ b.2 (.inr g) h)
 |(i,jz)::e,c,a,w,b,g,h=>by
  simp only[lC,jZ,beq_iff_eq]at b;refine λ_=>⟨λr=>(by rw[r]at b;simp at b),λj p=>?_⟩
  obtain rfl:j=i:=by rw[b.1]at p;simpa using p
  refine j1 (λs w' d=>?_) h
  rcases d with⟨s,t,u⟩|d
  ·exact⟨.inl s,tS k m e _ _ _ b.2 (.inl t) u⟩
  exact⟨.inr d.1,tS k m e _ _ _ b.2 (.inr d.1) (d.2 d.1)⟩
theorem NI{f:I}{a:Act}{w:jc}(S:jc->Prop)(b:I)(l:je (I×jw))(e:P.follows .mixedOrders=jf)(g:Region.noSelect ops=jf)
 (i:lC .any ops b l (qg ops.size jz)=jf) (j:l.length=ops.size) (k:∀c a d v w,Q (.panic c) (Act.put a d v) w->Q (.panic c) a w)
 (c:S w.drew) (h:gF P ops Q S b l a w.drew):(Code.region f ops jf).wp P Q a w:=
 wp_region_any e (rS _ _ _ _ (iM.zero _) (by have:=tS g k l _ a _ i (.inr c) h;rw[j]at this;exact this))
theorem Se{f i:I}{d:I}{a:Act}{w:jc}(S:jc->Prop)(r:I)(l:je (I×jw))(e:P.follows .mixedOrders=jf)(g:Region.noSelect ops=jf)(n:rR ops=jf)
 (j:lC .any ops r l (qg ops.size jz)=jf) (k:l.length=ops.size) (m:∀c a b v w,Q (.panic c) (Act.put a b v) w->Q (.panic c) a w) (c:¬LetsOut Q)
 (b:S w.drew) (h:gF P ops Q S r l a w.drew):(Code.region d ops jf).wpIn (Fence.wide.inRound f) i P Q a w:=
 wpIn_region_any e (yC c n _ _ _ _ (rS _ _ _ _ (iM.zero _) (by have:=tS g m l _ a _ j (.inr b) h;rw[k]at this;exact this)))
theorem lL{f:I}{a:Act}{w:jc}(S:jc->Prop)(b:I)(l:je (I×jw))(e:P.follows .mixedOrders=jf)(g:Region.noSelect ops=jf)
 (i:lC .any ops b l (qg ops.size jz)=jf) (j:l.length=ops.size) (k:∀c a d w,Q (.panic c) a w->Q (.panic c) d w)
 (m:S w.drew) (h:gF P ops Q S b l a w.drew):(Code.region f ops jf).wp P Q a w:=
 NI S b l e g i j (λc a d v w=>k c _ a w) m h
theorem IJ{f i:I}{d:I}{a:Act}{w:jc}(S:jc->Prop)(r:I)(l:je (I×jw))(e:P.follows .mixedOrders=jf)(g:Region.noSelect ops=jf)(n:rR ops=jf)
 (j:lC .any ops r l (qg ops.size jz)=jf) (k:l.length=ops.size) (m:∀c a b w,Q (.panic c) a w->Q (.panic c) b w) (o:¬LetsOut Q)
 (p:S w.drew) (h:gF P ops Q S r l a w.drew):(Code.region d ops jf).wpIn (Fence.wide.inRound f) i P Q a w:=
 Se S r l e g n j k (λc a b v w=>m c _ a w) o p h
theorem fY{f:I}{o:jy}{v:jh}{b:je (I×jw)}{a:Act}{w:jc}(c:ops[i]?=A o)(d:Region.wanted o (jX ops a.tmps)=jf)
 (e:∀w,S w->(jV a.eval o).run P w=.ok (.value v) w) (h:gF P ops Q S f b (a.put o.dst v) w):gF P ops Q S f ((i,jf)::b) a w:=
 ⟨o,v,c,.inl ⟨d,λw g=>.inl (e w g)⟩,h⟩
theorem LZ{f:I}{o:jy}{b:je (I×jw)}{a:Act}{w:jc}(c:ops[i]?=A o)(d:Region.wanted o (jX ops a.tmps)=jz)
 (h:gF P ops Q S f b (a.put o.dst jB) w):gF P ops Q S f ((i,jf)::b) a w:=
 ⟨o,jB,c,.inr ⟨d,rfl⟩,h⟩
theorem dn{f:I}{o:jy}{b:je (I×jw)}{a:Act}{w:jc}(e:ops[i]?=A o)
 (h:∀c:Act->jc->Prop,Shut (∀a w,S w->(S w->gF P ops Q S f b a w)->c a w)->if Region.wanted o (jX ops a.tmps)=jf then Oper.wp P o a w c Q else c (a.put o.dst jB) w):
 gF P ops Q S f ((i,jz)::b) a w:=
 qU e λc g=>h c (λa w d j=>g a w (.inr ⟨d,λ_=>j d⟩))
theorem pG{o:jy}{a:Act}{w:jc}(c:ops[f]?=A o)
 (h:∀b:Act->jc->Prop,Shut (∀a w,Q .normal a w->b a w)->if Region.wanted o (jX ops a.tmps)=jf then Oper.wp P o a w b Q else b (a.put o.dst jB) w):
 gF P ops Q S f [(f,jz)] a w:=
 qU c λb d=>h b (λa w e=>d a w (.inl ⟨jA _,rfl,e⟩))
end
theorem fE{p q:Prop}(k:q)(h:q->p:=by intro k;refine fY (v:=?_) rfl (by rfl) (λW' hS=>?_) ?_;rotate_left;(go_simp;with_reducible rfl);refine L ?_;exact k):p:=h k
theorem EF{p q:Prop}(k:q)(h:q->p:=by intro k;refine fY (v:=?_) rfl (by rfl) (λW' hS=>?_) ?_;rotate_left;(clear hS;go_simp;with_reducible rfl);refine L ?_;exact k):p:=h k
theorem vQ{p q:Prop}(k:q)(h:q->p:=by intro k;refine fY (v:=?_) rfl (by rfl) (λW' hS=>?_) ?_;rotate_left;(obtain⟨s0,s1,s2⟩:=hS;go_simp;with_reducible rfl);refine L ?_;exact k):p:=h k
theorem mx{p q:Prop}(k:q)(h:q->p:=by intro k;refine fY (v:=?_) rfl (by rfl) (λW' hS=>?_) ?_;rotate_left;(obtain⟨s0,s1,s2,s3⟩:=hS;go_simp;with_reducible rfl);refine L ?_;exact k):p:=h k
theorem wE{p q:Prop}(k:q)(h:q->p:=by intro k;refine fY (v:=?_) rfl (by rfl) (λW' hS=>?_) ?_;rotate_left;(obtain⟨s0,s1,s2,s3,s4⟩:=hS;go_simp;with_reducible rfl);refine L ?_;exact k):p:=h k
theorem sS{p q:Prop}(k:q)(h:q->p:=by intro k;refine LZ rfl (by rfl) ?_;refine L ?_;exact k):p:=h k
end
section
open Go.RowKit Go.Shelf
attribute [local go_sem] Oper.semAt_some
def PN:I:=4611686018427377339
theorem fs:PN=4611686018427377339:=T
theorem Ni(a b:I)(f:a<PN)(g:b<PN)(w:jc):
 ju ji 188 #[ja jk a,ja jk b] w λe w'=>∃c d:I,e=js (jL #[ja jk c,ja jk d])/\c<4611686018427377339/\d<18446744073709551616/\jm (c*18446744073709551616+d=a*b)/\w=w':=by
 rw[fs]at f g;refine(B8 a b Y Y w).mono ?_;rintro e w' ⟨rfl,rfl⟩;have h:a*b<=4611686018427377338*4611686018427377338:=Nat.mul_le_mul Y Y;refine⟨_,_,T,?_,qP _ G,O (by rw[ms];exact Nat.div_add_mod _ _),T⟩;generalize a*b=m at h;omega
theorem MU(a b:I)(f:a<4611686018427377339)(d:b<18446744073709551616)(w:jc):
 ju ji 189 #[ja jk a,ja jk b,ja jk 4611686018427377339] w λe w'=>
  ∃(q:N) (r:I),e=js (jL #[ja jk q,ja jk r])/\jm (r=(a*18446744073709551616+b)%PN)/\jn w w w':=by
 rcases qh a with rfl|h
 ·refine(div64_0 b d w).mono ?_
  rintro e w' ⟨q,rfl,c⟩;exact⟨q,_,T,O (by rw[sv,mz,fs]),c⟩
 refine(div64_1 a b h f d w).mono ?_;rintro e w' ⟨q,rfl,c⟩;exact⟨q,_,T,O (by rw[fs]),c⟩
theorem AP(a b:I)(d:a<PN)(f:b<PN)(w:jc):
 ju ji 127 #[ja jk a,ja jk b] w λe w'=>∃c:I,e=js (ja jk c)/\jm (c=a*b%PN)/\jn w w w':=by
 have g:=O (Ni a b d f);clear d f
 go_enter func127,ntmps127
 go_wp2_with fail
 refine(g _).mono ?_;rintro e m ⟨h,i,rfl,d,f,j,rfl⟩;have k:=O (MU h i d f);clear d f
 go_wp2_with fail
 refine(k _).mono ?_;rintro e n ⟨q,r,rfl,f,d⟩;have l:=O d;clear d
 go_wp2_with fail
 go_ret;exact⟨r,T,O (by rw[f,j]),l⟩
def iU(k:I):I->je jw
 |0=>[]
 |n+1=>(k/2^n%2==1)::iU k n
def pwL(a:I)(l:je jw):I:=l.foldl (λc b=>if b=jf then c*c%PN*a%PN else c*c%PN) 1
theorem za(a:I)(l:je jw)(b:jw):pwL a (l++[b])=if b=jf then pwL a l*pwL a l%PN*a%PN else pwL a l*pwL a l%PN:=by
 simp[pwL]
theorem GF(a:I):∀(l:je jw) (c:I),c<PN->l.foldl (λc b=>if b=jf then c*c%PN*a%PN else c*c%PN) c<PN
 |[],c,h=>h
 |b::r,c,h=>by
  rw[List.foldl_cons];refine GF a r _ ?_
  split<;>exact qP _ (by rw[fs];decide)
theorem PP(a:I)(l:je jw):pwL a l<PN:=GF a l 1 (by rw[fs];decide)
theorem Rp(a m:I):a^m%PN*(a^m%PN)%PN=a^(2*m)%PN:=by
 rw[<-sx,<-Nat.pow_add,Nat.two_mul]
theorem Bp(a k:I):∀n (l:je jw) (m:I),pwL a l=a^m%PN->pwL a (l++iU k n)=a^(m*2^n+k%2^n)%PN
 |0,l,m,h=>by simp[iU,Nat.mod_one,h]
 |n+1,l,m,h=>by
  have c:=Nat.mod_pow_succ (b:=2) (k:=n) (x:=k);have e:l++iU k (n+1)=(l++[(k/2^n%2==1)])++iU k n:=by simp[iU]
  rw[e]
  rcases xJ (k/2^n)with d|f
  ·rw[Bp a k n _ (2*m) (by rw[za,d,h];simp[<-Nat.pow_add,Nat.two_mul])]
   rw[c,d,qi,Nat.mul_zero,Nat.add_zero,ms 2 m,sy,ms 2]
  rw[Bp a k n _ (2*m+1) (by
   rw[za,f,h];simp only[beq_self_eq_true,if_true,Rp];rw[qi,sx,Nat.mod_mod,<-sx])]
  rw[c,f,qi,Nat.mul_one,Nat.add_mul,Nat.one_mul]
  congr 2
  rw[ms 2 m,sy,ms 2];omega
theorem wB(a k n:I)(b:k<2^n):pwL a (iU k n)=a^k%PN:=by
 have h:=Bp a k n [] 0 (by simp[pwL,fs]);rw[qa,sv,mz,j3 b]at h;exact h
theorem KE(k:N)(w:jc):
 ju ji 173 #[ja jk k] w λe w'=>e=js (.func (.func 226) #[] #[jG (A ⟨w,0,jd⟩)])/\w'=w.alloc (jj #[ja jk k] 196):=by
 go_enter func173,ntmps173
 go_wp2
 go_ret;exact⟨T,T⟩
theorem JQ(k n:I)(V:k<18446744073709551616)(c:bitLen k=n)(X:n<=64)(b:I)(w:jc)(t:jD w b 196 (ja jk k)):
 eR ji 226 #[jG (A ⟨b,0,jd⟩)] (λm:jw=>#[.bool m]) (·=b) 0 (λxs=>xs=iU k n) (λ_=>True) (λ_=>True) w:=by
 intro l u Jx W d f v g o;have x:jD W b 196 (ja jk k):=(d.block b t.lt).trans t;have a:=O (uv k Y Y);rw[vi]at a;rw[c]at a;have y:=x.cell;refine(qD (n:=0)).1 ?_;refine r7 func226 T trivial ?_ T;simp only[ntmps226,jW,o1,qs,qt,qu,qv,qw,qx,qy,qa,qz]
 gi_wp2_with fail
 refine⟨trivial,T,(callsIn_wide.2 (a _)).mono ?_⟩;rintro e w' ⟨rfl,rfl⟩;have hN:=O c;clear c y
 gi_wp2_with fail
 gi_loopw [3] (λs wr=>W.heap.size<=wr.heap.size/\∃(c:je jw) (j:I) (i:N),s=ja jg i/\ -1<=i/\i<=63/\jm (i=(j:N)-1)/\jm (c++iU k j=iU k n)/\u c (·=b) wr/\jD wr b 196 (ja jk k))
  (λs wr=>(jC s+1).toNat)
 case atStart=>
  exact⟨jA _,[],n,_,T,by omega,by omega,O rfl,O rfl,o,x⟩
 obtain⟨E,c,j,i,rfl,aa,ad,s,z,p,q⟩:=hrel;have y:=q.cell
 by_cases B:0<=i
 ·obtain⟨m,rfl⟩:=xK B
  have F:decide ((0:N)<=(m:N))=jf:=by simp
  obtain rfl:j=m+1:=aI s;have hm:m<=63:=Y;have r:bits .and .u64 ((k:N)/2^m) 1=((k/2^m%2:I):N):=by
   have e:(k:N)/2^m=((k/2^m:I):N):=by simp
   have h:=xL k (2^m);rw[e,show(1:N)=((1:I):N)from T,bits_and_u64_nat _ 1 Y G,Nat.and_one_is_mod]
  have H:(bits .and .u64 ((k:N)/2^m) 1==1)=(k/2^m%2==1):=by
   rw[r]
   rcases xJ (k/2^m)with h|h<;>rw[h]<;>rfl
  obtain⟨C,h⟩:=J ((k/2^m%2==1));rw[<-h]at H;have K:=O h;clear r h;obtain⟨fn,tmps,assign,body,M,D⟩:=g c C (·=b) wr p (by rintro _ rfl;exact q.lt) trivial;have HJ:jm (bZ W.heap.size u):=f;clear f g o v d B a
  gi_wp2
  refine⟨T,D.mono ?_⟩;rintro e P (⟨rfl,Q,h,r⟩|⟨rfl,R,h,r⟩)
  ·have S:jD P b 196 (ja jk k):=(r b T).trans q
   have U:=h.size;clear r h D M
   gi_wp2
   go_roundw
   case rel=>
    refine⟨qb E U,c++[C],m,(m:N)-1,T,by omega,by omega,O rfl,?_,Q,S⟩;exact O (by rw[<-z,K];simp[iU])
   case measure=>simp only[jC];omega
  gi_wp2
  refine o8 (ob T _ _ _) T ?_;exact⟨⟨_,T⟩,.inr ⟨_,_,trivial,R⟩⟩
 have F:=az (0<=i);have h:j=0:=aI s;clear g o f v d a
 gi_wp2
 refine xt (ob T _ _ _) T ?_;have a:=z.out;rw[h,iU,wi]at a;rw[a]at p;exact⟨⟨_,T⟩,.inl ⟨_,p⟩⟩
end
section
open Go.RowKit Go.Shelf
attribute [local go_sem] Oper.semAt_some
theorem FC(h:jn w w a)(c:B<=w.heap.size):qC B w a:=⟨h.size,λk o _ b _=>(h.block k (jQ.1 b).1).trans b⟩
theorem D4(a k:I)(ha:a<PN)(g:k<18446744073709551616)(w:jc):
 ju ji 117 #[ja jk a,ja jk k] w λe w'=>∃c:I,e=js (ja jk c)/\jm (c=a^k%PN)/\jn w w w':=by
 have M:bitLen k<=64:=by
  by_cases b:k=0
  ·subst b;decide
  have h:=(bitLen_spec k).2 b
  rcases qI 64 (bitLen k)with d|d
  ·have f:2^64<=2^(bitLen k-1):=wq G Y
   omega
  exact d
 obtain⟨n,B⟩:∃n,bitLen k=n:=⟨_,T⟩;rw[B]at M;have HP:=O (wB a k n (by rw[<-B];exact(bitLen_spec k).1));have HA:=O ha;refine(qD (n:=0)).1 ?_;refine xu func117 T trivial ?_ T;simp only[ntmps117,jW,o1,qs,qt,qu,qv,qw,qx,qy,qa,qz]
 gi_wp2_with fail
 refine⟨trivial,T,(callsIn_wide.2 (KE _ _)).mono ?_⟩;rintro e w' ⟨rfl,rfl⟩
 gi_wp2_with fail
 obtain⟨d,b⟩:=J (((w.alloc (jj #[ja jk a] 196)).alloc (jj #[ja jk 1] 196)).alloc (jj #[ja jk k] 196));have bA:jD d w.heap.size 196 (ja jk a):=by rw[b];exact((Boxed.new w _ _).alloc _).alloc _
 have bC:jD d (w.heap.size+1) 196 (ja jk (1:I)):=by
  have:=Boxed.new (w.alloc (jj #[ja jk a] 196)) 196 (ja jk (1:I));rw[j8]at this;rw[b];exact this.alloc _
 have P:jD d (w.heap.size+1+1) 196 (ja jk k):=by
  have:=Boxed.new ((w.alloc (jj #[ja jk a] 196)).alloc (jj #[ja jk 1] 196)) 196 (ja jk k);rw[j8,j8]at this;rw[b];exact this
 have bB:jn w w d:=by rw[b];exact(((jM _ w).alloc (jA _) _).alloc ar _).alloc (by simp;omega) _
 have a6:w.heap.size+3<=d.heap.size:=by rw[b];simp
 rw[<-b];clear b;refine ru (n:=0) (gf:=226) (lb:=#[jG (A ⟨w.heap.size+1+1,0,jd⟩)]) T (enters_of func226 af T)
  (JQ k n g B M (w.heap.size+1+1) d P) (qj _) (λ_=>rfl) (by rintro k rfl;exact P.lt)
  (λf Ψ W=>(jD W (w.heap.size+1) 196 (ja jk (pwL a f:I))/\¬Ψ (w.heap.size+1))/\(jD W w.heap.size 196 (ja jk a)/\¬Ψ w.heap.size)/\(jn w w W/\∀k,Ψ k->w.heap.size<=k))
  (λ_ _ _ _=>False)
  ((iQ d.heap.size (w.heap.size+1) 196 (λf=>jb .u64 (pwL a f:I))).and ((iQ _ _ _ (λ_=>_)).and (kK _ _ w (jA _) Y)))
  (λ_=>fq _ _)
  ⟨⟨bC,by omega⟩,⟨bA,by omega⟩,bB,by rintro k rfl;omega⟩
  (λx Q _ _=>Q={tmps:=#[ja jk a,ja jk k,jG (A ⟨w,0,jd⟩),jB,ja jk 0,jG (A ⟨w.heap.size+1,0,jd⟩),.bool x,ja jk k,
   .func (.func 226) #[] #[jG (A ⟨w.heap.size+1+1,0,jd⟩)],.bool x,jB,jB,jB,jB,jB,jB,jB,jB],defers:=[]}) (fq _ _)
  ?assign ?body ?done ?stop
 case assign=>
  intro l f x Ψ r K b _ C
  gi_wp2
  exact C _ _ (jM _ _) b T
 case body=>
  rintro l f x Ψ Q r ⟨⟨i,s⟩,⟨R,S⟩,t,E⟩ rfl _ U V ba;have b:=PP a f;have j:=za a f x;generalize pwL a f=c at i b j;have hc:=i.cell;have bb:=i.frozen;have o:=O (AP c c b b);have X:=O j;have YX:=O t;clear j b t
  gi_wp2_with fail
  refine⟨trivial,T,(CallsIn.inRound l (callsIn_wide.2 (o _))).mono ?_⟩;rintro e j ⟨b,rfl,D,m⟩;have F:jD j (w.heap.size+1) 196 (ja jk c):=(m.block _ i.lt).trans i;have aa:jD j w.heap.size 196 (ja jk a):=(m.block _ R.lt).trans R;have v:jD (j.setCell ⟨w.heap.size+1,0,jd⟩ (ja jk b)) (w.heap.size+1) 196 (ja jk b):=F.set _;have y:jD (j.setCell ⟨w.heap.size+1,0,jd⟩ (ja jk b)) w.heap.size 196 (ja jk a):=aa.other Y _;have q:qC d.heap.size r j:=FC m V;have u:=O (q.trans ((KeepsOthers.setCell j ⟨w.heap.size+1,0,jd⟩ (ja jk b)).from _));have z:=O (wt (m.mono (show w.heap.size<=r.heap.size by omega)) (p:=⟨w.heap.size+1,0,jd⟩) ar (ja jk b));have H:jm (∀k,Ψ k->(j.setCell ⟨w.heap.size+1,0,jd⟩ (ja jk b)).heap[k]?=r.heap[k]?):=λk g=>by
   rw[qe _ _ _ _ (by rintro rfl;exact s g)];exact m.block _ (U k g)
  have VW:=F.cell;have ad:=F.frozen;clear q m o
  cases x
  ·gi_wp2
   refine⟨⟨u,z.mono (qj _),H⟩,⟨?_,s⟩,⟨y,S⟩,YX.trans z,E⟩;have e:(if jz=jf then c*c%PN*a%PN else c*c%PN)=b:=by rw[j5 G,D]
   rw[X,e];exact v
  have au:b<PN:=by rw[D];exact qP _ (by rw[fs];decide)
  have YY:=O (AP b a au HA);obtain⟨A2,m⟩:=J (j.setCell ⟨w.heap.size+1,0,jd⟩ (ja jk b));have ax:=O m;have o:=aa.cell;clear m
  gi_wp2_with fail
  rw[<-ax]at v y u z H⊢;clear VW ad o;refine⟨trivial,T,(CallsIn.inRound l (callsIn_wide.2 (YY _))).mono ?_⟩;rintro e o ⟨m,rfl,US,q⟩;have K:jD o (w.heap.size+1) 196 (ja jk b):=(q.block _ v.lt).trans v;have ay:jD o w.heap.size 196 (ja jk a):=(q.block _ y.lt).trans y;have a1:jD (o.setCell ⟨w.heap.size+1,0,jd⟩ (ja jk m)) (w.heap.size+1) 196 (ja jk m):=K.set _;have a2:jD (o.setCell ⟨w.heap.size+1,0,jd⟩ (ja jk m)) w.heap.size 196 (ja jk a):=ay.other Y _;have a3:d.heap.size<=A2.heap.size:=qb V u.size;have a4:=O ((u.trans (FC q a3)).trans ((KeepsOthers.setCell o ⟨w.heap.size+1,0,jd⟩ (ja jk m)).from _));have UK:=O (z.trans (wt (q.mono (show w.heap.size<=A2.heap.size by omega)) (p:=⟨w.heap.size+1,0,jd⟩) ar (ja jk m)));have a5:jm (∀k,Ψ k->(o.setCell ⟨w.heap.size+1,0,jd⟩ (ja jk m)).heap[k]?=r.heap[k]?):=λk g=>by
   rw[qe _ _ _ _ (by rintro rfl;exact s g)];exact(q.block _ (qA (U k g) u.size)).trans (H k g)
  have VW:=K.cell;have ad:=K.frozen;clear q YY
  gi_wp2
  refine⟨⟨a4,UK.mono (qj _),a5⟩,⟨?_,s⟩,⟨a2,S⟩,YX.trans UK,E⟩;have e:∀(p:Prop) [Decidable p],p->(if p then c*c%PN*a%PN else c*c%PN)=m:=λp _ h=>by rw[pz h,US,D]
  rw[X,e _ (by trivial)];exact a1
 case done=>
  rintro D xs Ψ W j rfl ⟨⟨i,s⟩,-,t,E⟩ C;rw[HP]at i;have hc:=i.cell;have b:=O t;clear t
  gi_wp2
  refine⟨by simp,.inl ⟨_,_,T,qE C,?_⟩⟩;exact⟨_,results_tmp T _ _ _,_,T,O T,b.trans (iy Y)⟩
 intro D c f Ψ W _ _ h;exact h.elim
end
def QN:I:=2305843009213688669
def bL(n:N):Prop:=1<=n/\n<4611686018427377339/\n.toNat^QN%PN=1
noncomputable def cW(n:N):N:=by classical exact if bL n then 0 else 40
theorem gE{o:N}(h:bL o):cW o=0:=by unfold cW;rw[pz h]
theorem lf{n:N}(h:¬bL n):cW n=40:=by unfold cW;rw[j5 h]
theorem Mx(a:I)(b:a<PN)(w:jc):
 ju ji 117 #[ja jk a,ja jk 2305843009213688669] w λe w'=>∃c:I,e=js (ja jk c)/\jm (c=a^QN%PN)/\jn w w w':=by
 have h:=D4 a QN b (by unfold QN;decide) w;rw[show((QN:I):N)=2305843009213688669 from T]at h;exact h
theorem gC(n:N)(w:jc):
 ju ji 60 #[ja jg n] w λe w'=>e=js (ja jg (cW n))/\jn w w w':=by
 by_cases p:n<1
 ·have i:=aA (n<1)
  have b:=O (lf (n:=n) (λh=>by unfold bL at h;omega))
  go_enter func60,ntmps60
  go_wp2
  go_ret;exact⟨by rw[b];rfl,jM _ _⟩
 have i:=az (n<1)
 by_cases q:4611686018427377339<=n
 ·have hd2:=aA (4611686018427377339<=n)
  have b:=O (lf (n:=n) (λh=>by unfold bL at h;omega))
  go_enter func60,ntmps60
  go_wp2
  go_ret;exact⟨by rw[b];rfl,jM _ _⟩
 have hd2:=az (4611686018427377339<=n);obtain⟨m,rfl⟩:=xK (show 0<=n by omega);have j:=O (Mx m (by rw[fs];omega));have b:jm (m^QN%PN=1->cW m=0):=O λh=>gE ⟨by omega,by omega,by rw[vi];exact h⟩
 have k:jm (m^QN%PN≠1->cW m=40):=O λh=>lf (λg=>h (by have:=g.2.2;rwa [vi]at this))
 go_enter func60,ntmps60
 go_wp2_with fail
 refine(j _).mono ?_;rintro e r ⟨c,rfl,f,a⟩;have g:=O a;clear a
 by_cases a:c=1
 ·have l:((c:N)==1)=jf:=by rw[a];rfl
  have o:((c:N)!=1)=jz:=by rw[a];rfl
  have d:=O a;clear a
  go_wp2
  go_ret;exact⟨by rw[b.out (by rw[<-f,d])];rfl,g⟩
 have l:((c:N)==1)=jz:=by simpa using λh=>a Y
 have o:((c:N)!=1)=jf:=by simpa using λh=>a Y
 have d:=O a;clear a
 go_wp2
 go_ret;exact⟨by rw[k.out (by rw[<-f];exact d)];rfl,g⟩
section
variable{i:I}
section
variable {P:jI} {ops:jt jy} {Q:jT->Act->jc->Prop} {md:Region.Mode} {S:jc->Prop}
inductive bE where
 |done:bE
 |t (i:I) (r:bE):bE
 |o (i:I) (r:bE):bE
 |w (i j:I) (x y:bE):bE
 |float (i:I) (ks:je I) (r:bE):bE
def bE.len:bE->I
 | .done=>0
 | .t _ r=>r.len+1
 | .o _ r=>r.len+1
 | .w _ _ x y=>max x.len y.len+1
 | .float _ a r=>a.length+r.len+1
def mj(ops:jt jy)(i k:I):jw:=
 match ops[i]?,ops[k]? with
 |some a,A ok=>a.apart ops ok
 |_,_=>jz
def wY(md:Region.Mode)(ops:jt jy)(i:I)(r:jt jw->jw):je I->jt jw->jw
 |[],a=>r a
 |k::b,a=>Region.ready md ops a==[k]&&mj ops i k&&wY md ops i r b (a.setIfInBounds k jf)
def tm(md:Region.Mode)(ops:jt jy)(i:I)(r:jt jw->jw):je I->jt jw->jw
 |[],a=>Region.ready md ops a==[i]&&r (a.setIfInBounds i jf)
 |k::b,a=>(Region.ready md ops a==[i,k]||Region.ready md ops a==[k,i])&&tm md ops i r b (a.setIfInBounds k jf)&&wY md ops i r (k::b) (a.setIfInBounds i jf)
def gB(md:Region.Mode)(ops:jt jy):bE->jt jw->jw
 | .done,a=>Region.ready md ops a==[]
 | .t i r,a=>Region.free md ops a i&&(Region.ready md ops a).contains i&&gB md ops r (a.setIfInBounds i jf)
 | .o i r,a=>Region.ready md ops a==[i]&&gB md ops r (a.setIfInBounds i jf)
 | .w i j x y,a=>Region.ready md ops a==[i,j]&&gB md ops x (a.setIfInBounds i jf)&&gB md ops y (a.setIfInBounds j jf)
 | .float i b r,a=>tm md ops i (gB md ops r) b a
def bE.tail(f:I):bE->jw
 | .done=>jf
 | .o i r=>decide (f<=i)&&r.tail f
 |_=>jz
def bE.waits(md:Region.Mode)(ops:jt jy)(f:I):bE->jw
 | .done=>jf
 | .t i r=>AE md ops f i&&r.waits md ops f
 | .o _ r=>r.waits md ops f
 | .w _ _ x y=>x.waits md ops f&&y.waits md ops f
 | .float _ _ r=>r.waits md ops f
def cV(P:jI)(ops:jt jy)(Q:jT->Act->jc->Prop)(S:jc->Prop)(f:I):bE->Act->jc->Prop
 | .done,a,w=>Q .normal a w
 | .t i r,a,w=>∃o v,ops[i]?=A o/\fR P ops S o v a/\cV P ops Q S f r (a.put o.dst v) w
 | .o i r,a,w=>jK P ops Q i (λb w'=>(f<=i/\r.tail f=jf/\cV P ops Q S f r b w')\/(S w'/\(S w'->cV P ops Q S f r b w'))) a w
 | .w i j x y,a,w=>jK P ops Q i (λb w'=>(f<=i/\x.tail f=jf/\cV P ops Q S f x b w')\/(S w'/\(S w'->cV P ops Q S f x b w'))) a w/\jK P ops Q j (λb w'=>(f<=j/\y.tail f=jf/\cV P ops Q S f y b w')\/(S w'/\(S w'->cV P ops Q S f y b w'))) a w
 | .float i e r,a,w=>∃(o:jy) (c:I->Act->jc->jE jh->Prop),ops[i]?=A o/\c 0 a w jd/\(∀j a w d,c j a w d->S w)/\
  (∀(j k:I),e[j]?=A k->∀a w d,c j a w d->jK P ops Q k (λb w'=>c (j+1) b w' d) a w)/\
  (∀j,j<=e.length->∀a w,c j a w jd->jK P ops Q i (λb w'=>∃v,b=a.put o.dst v/\c j a w' (A v)) a w)/\
  (∀a w v,c e.length a w (A v)->cV P ops Q S f r (a.put o.dst v) w)
def eO(P:jI)(ops:jt jy)(Q:jT->Act->jc->Prop)(S:jc->Prop):bE->Act->jc->Prop
 | .done,a,w=>Q .normal a w
 | .t i r,a,w=>∃o v,ops[i]?=A o/\fR P ops S o v a/\eO P ops Q S r (a.put o.dst v) w
 | .o i r,a,w=>jK P ops Q i (λb w'=>S w'/\(S w'->eO P ops Q S r b w')) a w
 | .w i j x y,a,w=>jK P ops Q i (λb w'=>S w'/\(S w'->eO P ops Q S x b w')) a w/\jK P ops Q j (λb w'=>S w'/\(S w'->eO P ops Q S y b w')) a w
 | .float i e r,a,w=>∃(o:jy) (c:I->Act->jc->jE jh->Prop),ops[i]?=A o/\c 0 a w jd/\(∀j a w d,c j a w d->S w)/\
  (∀(j k:I),e[j]?=A k->∀a w d,c j a w d->jK P ops Q k (λb w'=>c (j+1) b w' d) a w)/\
  (∀j,j<=e.length->∀a w,c j a w jd->jK P ops Q i (λb w'=>∃v,b=a.put o.dst v/\c j a w' (A v)) a w)/\
  (∀a w v,c e.length a w (A v)->eO P ops Q S r (a.put o.dst v) w)
theorem eO.toF:∀(t:bE) (a:Act) (w:jc),eO P ops Q S t a w->cV P ops Q S i t a w
 | .done,_,_,h=>h
 | .t f r,a,w,⟨o,v,c,d,e⟩=>⟨o,v,c,d,toF r _ _ e⟩
 | .o f r,a,w,h=>j1 (λg w' h=>.inr ⟨h.1,λb=>toF r _ _ (h.2 b)⟩) h
 | .w f j x y,a,w,h=>⟨j1 (λg w' h=>.inr ⟨h.1,λb=>toF x _ _ (h.2 b)⟩) h.1,j1 (λg w' h=>.inr ⟨h.1,λb=>toF y _ _ (h.2 b)⟩) h.2⟩
 | .float f m r,a,w,⟨o,b,c,d,e,g,k,l⟩=>⟨o,b,c,d,e,g,k,λa w v h=>toF r _ _ (l a w v h)⟩
theorem zB{j:I}{i g:jy}{v:jh}(q:ops[j]?=A g)(s:i.apart ops g=jf)(o:∀a b,g.op≠.select a b)
 (p:∀c a e w,Q (.panic c) a w->Q (.panic c) e w) {K:Act->jc->Prop} {a:Act} {w:jc} (h:jK P ops Q j K a w):
 jK P ops Q j (λk w'=>∃e,k=e.put i.dst v/\K e w') (a.put i.dst v) w:=by
 obtain⟨l,k,z⟩:=Oper.apart_spec s;unfold jK at*;simp only[q]at*;rw[wanted_put g a i.dst v l]
 split
 ·rename_i m
  simp only[m,if_true]at h
  rcases h with h|⟨t,y⟩
  case inr=>exact .inr ⟨by unfold Oper.asks at*;rw[execOp_put g o a i.dst v l];exact t,y⟩
  refine .inl ?_;unfold Oper.wp at*;rw[execOp_put g o a i.dst v l];generalize(jV a.eval g).run P w=r at*
  cases r with
  |ok n w'=>
   cases n<;>simp only[Oper.upon]at h⊢
   case value u=>exact⟨_,Act.put_comm a v u k,h⟩
   case skip=>exact⟨_,Act.put_comm a v jB k,h⟩
   case defer d=>
    exact⟨_,(jv (λb=>Act.put b g.dst jB) (Act.put_defers a i.dst v d)).trans (Act.put_comm _ v jB k),h⟩
   case enter f args=>
    refine Calls.mono h λe b he=>?_
    cases e with
    |returned u=>exact⟨_,Act.put_comm a v u k,he⟩
    |panicked c=>exact p _ _ _ _ he
    |outgrown=>exact he
   case row row args=>exact Rows.mono h λu b he=>⟨_,Act.put_comm a v u k,he⟩
  |halt x w'=>
   cases x<;>simp only[Oper.upon]at h⊢
   case panic u=>exact p _ _ _ _ h
 rename_i m;simp only[m]at h;exact⟨_,Act.put_comm a v jB k,h⟩
theorem Af{f:I}{a:jy}(b:ops[i]?=A a)(h:mj ops i f=jf):∃ok,ops[f]?=A ok/\a.apart ops ok=jf:=by
 unfold mj at h;rw[b]at h
 cases hk:ops[f]? with
 |none=>rw[hk]at h;cases h
 |some ok=>rw[hk]at h;exact⟨ok,T,h⟩
theorem D7(u:Region.noSelect ops=jf)(y:∀c a l w,Q (.panic c) a w->Q (.panic c) l w){f i:I}{o:jy}(z:ops[i]?=A o){r:jt jw->jw}{n B:I}{p:I->Act->jc->jE jh->Prop}
 (C:∀j a w e,p j a w e->S w) (D:∀fuel d a w v,B<=fuel->r d=jf->p n a w (A v)->ik P md ops Q S f fuel d (a.put o.dst v) w):
 ∀(g:je I) (j fuel:I) (d:jt jw) (a:Act) (w:jc) (v:jh),g.length+B<=fuel->wY md ops i r g d=jf->j+g.length=n->
  (∀(m k:I),g[m]?=A k->∀a w e,p (j+m) a w e->jK P ops Q k (λl w'=>p (j+m+1) l w' e) a w)->p j a w (A v)->ik P md ops Q S f fuel d (a.put o.dst v) w
 |[],j,fuel,d,a,w,v,q,c,s,_,t=>by
  obtain rfl:j=n:=ak s;exact D _ _ _ _ _ (ak q) c t
 |k::g,j,fuel,d,a,w,v,q,c,s,E,t=>by
  cases fuel with
  |zero=>simp at q
  |succ fuel=>
   simp only[wY,jZ,beq_iff_eq]at c;obtain⟨ok,F,K⟩:=Af z c.1.2;refine λ_=>⟨λM=>(by rw[M]at c;simp at c),λx H=>?_⟩
   obtain rfl:x=k:=by rw[c.1.1]at H;simpa using H
   refine j1 (λb w' R=>?_) (zB (v:=v) F K (λh b=>Region.noSelect_spec u x ok h b F) y (E 0 x ar a w (A v) t));obtain⟨l,rfl,b⟩:=R;refine⟨.inr (C _ _ _ _ b),D7 u y z C D g (j+1) fuel _ l w' v (by simp at q;omega) c.2 (by simp at s;omega) (λm k U a w e h=>?_) b⟩;have:=E (m+1) k (ak U) a w e (by rw[show j+(m+1)=j+1+m by omega];exact h);rw[show j+(m+1)=j+1+m by omega]at this;exact this
theorem B5(F:Region.noSelect ops=jf)(H:∀c a d w,Q (.panic c) a w->Q (.panic c) d w){f i:I}{o:jy}(K:ops[i]?=A o){r:jt jw->jw}{n M:I}{e:I->Act->jc->jE jh->Prop}
 (t:∀j a w p,e j a w p->S w) (z:∀fuel g a w v,M<=fuel->r g=jf->e n a w (A v)->ik P md ops Q S f fuel g (a.put o.dst v) w)
 (B:∀j,j<=n->∀a w,e j a w jd->jK P ops Q i (λd w'=>∃v,d=a.put o.dst v/\e j a w' (A v)) a w):
 ∀(l:je I) (j fuel:I) (g:jt jw) (a:Act) (w:jc),l.length+M+1<=fuel->tm md ops i r l g=jf->j+l.length=n->
  (∀(m k:I),l[m]?=A k->∀a w p,e (j+m) a w p->jK P ops Q k (λd w'=>e (j+m+1) d w' p) a w)->e j a w jd->ik P md ops Q S f fuel g a w
 |[],j,fuel,g,a,w,q,b,u,_,y=>by
  obtain rfl:j=n:=ak u
  cases fuel with
  |zero=>simp at q
  |succ fuel=>
   simp only[tm,jZ,beq_iff_eq]at b;refine λ_=>⟨λC=>(by rw[C]at b;simp at b),λx c=>?_⟩
   obtain rfl:x=i:=by rw[b.1]at c;simpa using c
   refine j1 (λR w' s=>?_) (B j (jA _) a w y);obtain⟨v,rfl,h⟩:=s;exact⟨.inr (t _ _ _ _ h),z _ _ _ _ _ (by simp at q;omega) b.2 h⟩
 |k::l,j,fuel,g,a,w,q,b,u,D,y=>by
  cases fuel with
  |zero=>simp at q
  |succ fuel=>
   simp only[tm,jZ,qZ,beq_iff_eq]at b;refine λ_=>⟨λC=>(by rw[C]at b;simp at b),λx c=>?_⟩
   have U:x=i\/x=k:=by
    rcases b.1.1 with E|E
    ·rw[E]at c;simpa using c
    rw[E]at c;simp at c;exact c.symm
   rcases U with rfl|rfl
   ·refine j1 (λR w' s=>?_) (B j Y a w y)
    obtain⟨v,rfl,h⟩:=s;exact⟨.inr (t _ _ _ _ h),D7 F H K t z (k::l) j fuel _ a w' v (by simp at q⊢;omega) b.2 u D h⟩
   refine j1 (λd w' s=>?_) (D 0 x ar a w jd y);refine⟨.inr (t _ _ _ _ s),B5 F H K t z B l (j+1) fuel _ d w' (by simp at q;omega) b.1.2 (by simp at u;omega) (λm k v a w p h=>?_) s⟩;have:=D (m+1) k (ak v) a w p (by rw[show j+(m+1)=j+1+m by omega];exact h);rw[show j+(m+1)=j+1+m by omega]at this;exact this
theorem kF{i:I}(p:Region.noSelect ops=jf)(q:∀c a B w,Q (.panic c) a w->Q (.panic c) B w):
 ∀(t:bE) (fuel:I) (l:jt jw) (a:Act) (w:jc),t.len<=fuel->gB md ops t l=jf->t.waits md ops i=jf->(t.tail i=jf\/S w)->cV P ops Q S i t a w->ik P md ops Q S i fuel l a w
 | .done,fuel,l,a,w,_,b,_,_,h=>by
  have d:Region.ready md ops l=[]:=by simpa [gB]using b
  cases fuel with
  |zero=>exact⟨d,h⟩
  |succ n=>exact λ_=>⟨λ_=>h,λf e=>by rw[d]at e;cases e⟩
 | .t f r,fuel,l,a,w,e,b,g,s,⟨o,v,C,E,h⟩=>by
  have s:S w:=s.resolve_left (by simp[bE.tail]);simp only[bE.waits,jZ]at g
  cases fuel with
  |zero=>simp[bE.len]at e
  |succ n=>
   simp only[gB,jZ]at b;refine wh C (Region.noSelect_spec p) (λc a d v w=>q c _ a w) n l a w (Region.free_spec C b.1.1) (Fp g.1) (ak b.1.2) E s (kF p q r n _ _ _ (by simp[bE.len]at e;omega) b.2 g.2 (.inr s) h)
 | .o f r,fuel,l,a,w,e,b,g,s,h=>by
  cases fuel with
  |zero=>simp[bE.len]at e
  |succ n=>
   simp only[gB,jZ,beq_iff_eq]at b;refine λ_=>⟨λD=>(by rw[D]at b;simp at b),λj d=>?_⟩
   obtain rfl:j=f:=by rw[b.1]at d;simpa using d
   refine j1 (λB w' c=>?_) h
   rcases c with⟨m,u,z⟩|c
   ·exact⟨.inl m,kF p q r n _ _ _ (by simp[bE.len]at e;omega) b.2 g (.inl u) z⟩
   exact⟨.inr c.1,kF p q r n _ _ _ (by simp[bE.len]at e;omega) b.2 g (.inr c.1) (c.2 c.1)⟩
 | .w f k x y,fuel,l,a,w,e,b,g,s,h=>by
  simp only[bE.waits,jZ]at g
  cases fuel with
  |zero=>simp[bE.len]at e
  |succ n=>
   simp only[gB,jZ,beq_iff_eq]at b;refine λ_=>⟨λD=>(by rw[D]at b;simp at b),λj d=>?_⟩
   rw[b.1.1]at d;have F:j=f\/j=k:=ak d
   rcases F with rfl|rfl
   ·refine j1 (λB w' c=>?_) h.1
    rcases c with⟨m,u,z⟩|c
    ·exact⟨.inl m,kF p q x n _ _ _ (by simp[bE.len]at e;omega) b.1.2 g.1 (.inl u) z⟩
    exact⟨.inr c.1,kF p q x n _ _ _ (by simp[bE.len]at e;omega) b.1.2 g.1 (.inr c.1) (c.2 c.1)⟩
   refine j1 (λB w' c=>?_) h.2
   rcases c with⟨m,u,z⟩|c
   ·exact⟨.inl m,kF p q y n _ _ _ (by simp[bE.len]at e;omega) b.2 g.2 (.inl u) z⟩
   exact⟨.inr c.1,kF p q y n _ _ _ (by simp[bE.len]at e;omega) b.2 g.2 (.inr c.1) (c.2 c.1)⟩
 | .float f d r,fuel,l,a,w,e,b,g,s,⟨o,K,C,c,j,u,z,B⟩=>by
  have D:d.length+r.len+1<=fuel:=e;exact B5 (n:=d.length) p q C j (λfuel l a w v e b c=>kF p q r fuel l _ _ e b g (.inr (j _ _ _ _ c)) (B _ _ _ c)) z d 0 fuel l a w D b Y (λm k F a w H h=>by rw[mz]at h⊢;exact u m k F a w H h) c
theorem fb{i:I}{a:Act}{w:jc}(S:jc->Prop)(f:I)(t:bE)(d:P.follows .mixedOrders=jf)(e:Region.noSelect ops=jf)
 (g:gB .any ops t (qg ops.size jz)=jf) (b:t.waits .any ops f=jf) (j:t.len<=ops.size) (k:∀c a h w,Q (.panic c) a w->Q (.panic c) h w)
 (c:S w.drew) (h:cV P ops Q S f t a w.drew):(Code.region i ops jf).wp P Q a w:=
 wp_region_any d (rS _ _ _ _ (iM.zero _) (kF e k t _ _ _ _ j g b (.inr c) h))
theorem bE.waits_size:∀t:bE,t.waits md ops ops.size=jf
 | .done=>rfl
 | .t i r=>by
  simp only[bE.waits,jZ];refine⟨xH.2 λj a=>?_,waits_size r⟩;simp[xI.1 a]
 | .o _ r=>waits_size r
 | .w _ _ x y=>by simp only[bE.waits,jZ];exact⟨waits_size x,waits_size y⟩
 | .float _ _ r=>waits_size r
theorem I9{i:I}{a:Act}{w:jc}(S:jc->Prop)(t:bE)(d:P.follows .mixedOrders=jf)(e:Region.noSelect ops=jf)
 (f:gB .any ops t (qg ops.size jz)=jf) (g:t.len<=ops.size) (b:∀c a h w,Q (.panic c) a w->Q (.panic c) h w)
 (c:S w.drew) (h:eO P ops Q S t a w.drew):(Code.region i ops jf).wp P Q a w:=
 fb S ops.size t d e f (bE.waits_size t) g b c (eO.toF t _ _ h)
theorem Sw{o:jy}{a:jh}{r:bE}{v:Act}{w:jc}(b:ops[i]?=A o)(c:Region.wanted o (jX ops v.tmps)=jf)
 (d:∀w,S w->(jV v.eval o).run P w=.ok (.value a) w) (h:eO P ops Q S r (v.put o.dst a) w):eO P ops Q S (.t i r) v w:=
 ⟨o,a,b,.inl ⟨c,λw e=>.inl (d w e)⟩,h⟩
theorem MI{o:jy}{r:bE}{a:Act}{w:jc}(b:ops[i]?=A o)(c:Region.wanted o (jX ops a.tmps)=jz)
 (h:eO P ops Q S r (a.put o.dst jB) w):eO P ops Q S (.t i r) a w:=
 ⟨o,jB,b,.inr ⟨c,rfl⟩,h⟩
theorem M4{o:jy}{r:bE}{a:Act}{w:jc}(d:ops[i]?=A o)
 (h:∀b:Act->jc->Prop,Shut (∀a w,S w->(S w->eO P ops Q S r a w)->b a w)->if Region.wanted o (jX ops a.tmps)=jf then Oper.wp P o a w b Q else b (a.put o.dst jB) w):
 eO P ops Q S (.o i r) a w:=
 qU d λb e=>h b (λa w c f=>e a w ⟨c,λ_=>f c⟩)
theorem SX{o:jy}{a:jh}{r:bE}{v:Act}{w:jc}{f:FuncId}{args:jt jh}(b:ops[i]?=A o)(c:Region.wanted o (jX ops v.tmps)=jf)
 (he:∀w,(jV v.eval o).run P w=.ok (.enter f args) w) (d:∀w,S w->ju P f args w λe w'=>e=js a/\w'=w) (h:eO P ops Q S r (v.put o.dst a) w):eO P ops Q S (.t i r) v w:=
 ⟨o,a,b,.inl ⟨c,λw e=>.inr ⟨f,args,he w,d w e⟩⟩,h⟩
theorem Tp{f:I}{x y:bE}{a:Act}{w:jc}(b:eO P ops Q S (.o i x) a w)(c:eO P ops Q S (.o f y) a w):eO P ops Q S (.w i f x y) a w:=
 ⟨b,c⟩
theorem cD{o:jy}{v:jh}{r:bE}{a:Act}{w:jc}{f:I}(b:ops[i]?=A o)(c:Region.wanted o (jX ops a.tmps)=jf)
 (d:∀w,S w->(jV a.eval o).run P w=.ok (.value v) w) (h:cV P ops Q S f r (a.put o.dst v) w):cV P ops Q S f (.t i r) a w:=
 ⟨o,v,b,.inl ⟨c,λw e=>.inl (d w e)⟩,h⟩
theorem Hl{o:jy}{r:bE}{a:Act}{w:jc}{f:I}(b:ops[i]?=A o)(c:Region.wanted o (jX ops a.tmps)=jz)
 (h:cV P ops Q S f r (a.put o.dst jB) w):cV P ops Q S f (.t i r) a w:=
 ⟨o,jB,b,.inr ⟨c,rfl⟩,h⟩
theorem cO{o:jy}{r:bE}{a:Act}{w:jc}{f:I}(d:ops[i]?=A o)
 (h:∀b:Act->jc->Prop,Shut (∀a w,S w->(S w->cV P ops Q S f r a w)->b a w)->if Region.wanted o (jX ops a.tmps)=jf then Oper.wp P o a w b Q else b (a.put o.dst jB) w):
 cV P ops Q S f (.o i r) a w:=
 qU d λb e=>h b (λa w c g=>e a w (.inr ⟨c,λ_=>g c⟩))
theorem nL{o:jy}{r:bE}{a:Act}{w:jc}{f:I}(c:ops[i]?=A o)(d:f<=i)(e:r.tail f=jf)
 (h:∀b:Act->jc->Prop,Shut (∀a w,cV P ops Q S f r a w->b a w)->if Region.wanted o (jX ops a.tmps)=jf then Oper.wp P o a w b Q else b (a.put o.dst jB) w):
 cV P ops Q S f (.o i r) a w:=
 qU c λb g=>h b (λa w j=>g a w (.inl ⟨d,e,j⟩))
end
theorem bX{p q:Prop}(k:q)(h:q->p:=by intro k;refine cD (v:=?_) rfl (by rfl) (λW' hS=>?_) ?_;rotate_left;(clear hS;go_simp;with_reducible rfl);refine L ?_;exact k):p:=h k
end
section
def cF(w:jc)(v:jh)(sz n:I)(xs:je jh):Prop:=
 xs.length=n*sz/\∃(p:jE jP) (c:I),v=jp p n c/\n<=c/\(p=jd->c=0)/\
  (0<n->∃g o,p=A ⟨g,o,jd⟩/\∀(j:I) u,xs[j]?=A u->w.cell? ⟨g,o+j,jd⟩=A u)
theorem gg{w:jc}{a:jP}{u:jh}(h:w.cell? a=A u):a.block<w.heap.size:=by
 unfold j4 at h
 cases hb:w.heap[a.block]? with
 |none=>simp[hb]at h
 |some x=>exact(jQ.1 hb).1
theorem cF.below{w w':jc}{v:jh}{sz n:I}{xs:je jh}(h:cF w v sz n xs)(d:jn w w w'):cF w' v sz n xs:=by
 obtain⟨f,p,c,rfl,i,k,l⟩:=h;refine⟨f,p,c,T,i,k,λm=>?_⟩;obtain⟨g,o,e,a⟩:=l m;exact⟨g,o,e,λj u b=>by rw[d.cell (p:=⟨g,o+j,jd⟩) (gg (a j u b))];exact a j u b⟩
theorem cF.of_own{w:jc}{B sz n:I}{e:jq}{v:jh}{xs:je jh}(h:w.ownsRow B e sz v n xs):cF w v sz n xs:=by
 refine⟨h.1,?_⟩
 rcases h.2 with⟨rfl,b⟩|⟨g,c,k,rfl,l,d,f,m,o,i⟩
 ·have j:n=0:=by
   first
    |exact b
    |(have a:=h.1;rw[b]at a;simp at a;omega)
  subst j;exact⟨jd,0,T,jA _,λ_=>rfl,λa=>by omega⟩
 refine⟨A ⟨g,0,jd⟩,c,T,f,λe=>by simp at e,λ_=>⟨g,0,rfl,λj u a=>?_⟩⟩;have p:j<xs.length:=(o3.1 a).1;rw[<-i]at a;rw[xA]at a
 split at a
 ·simp only[j4,d]
  simpa using a
 cases a
theorem uW(g o j:I):(⟨g,o,jd⟩:jP).add j=⟨g,o+j,jd⟩:=by unfold Addr.add;split<;>simp_all
section
variable {P:jI}
theorem QZ(w:jc)(base:I)(t b e:jq)(i:TypeInfo)(z:jh)(size d:I)(h:P.underlying t=A (.slice e))(k:P.info? e=A i)(s:i.zero=A z)
 (x:i.size=size) (y:i.bytes=d) (B:z.cells.size=size) (C:0<size)
 (v:jh) (n:I) (xs:je jh) (f:w.ownsRow base e size v n xs) (u:jh) (m:I) (ys:je jh) (D:cF w u size m ys) (E:∀u∈ys,u.oneCell'=jf)
 (F:n+m<=jY) (H:(n+m)*d<=140737488355328) (K:base<=w.heap.size):
 ∃a w',(Builtin.append_ #[t,t] b #[v,u]).run P w=.ok a w'/\w'.ownsRow base e size a (n+m) (xs++ys)/\w.grownBy w' v.ownBlock:=by
 obtain⟨l,p,c,rfl,W,M,Q⟩:=D
 rcases p with _|q
 ·have g:=M T
  subst g;obtain rfl:m=0:=Y;obtain rfl:ys=[]:=wv Y;exact⟨v,w,run_append_owned_none (P:=P) (w:=w) base t b e i size h k v n xs f,by simpa using f,q7.refl _ _⟩
 have R:∀(j:I) u,ys[j]?=A u->w.cell? (q.add j)=A u:=?_
 ·obtain⟨a,w',g,o,r,_⟩:=run_append_own (P:=P) w base t b e i z size d h k s x y B C v n xs f q m c ys l R E F H K
  exact⟨a,w',g,o,r⟩
 intro j u r;have S:=(o3.1 r).1;have U:0<m:=by
  rcases qh m with g|g
  ·rw[l,g]at S;omega
  exact g
 obtain⟨g,o,e,V⟩:=Q U;obtain rfl:=qN.inj e;rw[uW];exact V j u r
theorem IN{w:jc}{o:jy}{a:Act}{K:Act->jc->Prop}{d:jT->Act->jc->Prop}(s x:nn)(t:jq)
 (f:o.op=.call {callee:=.builtin .append,args:=#[s,x],argTypes:=#[t,t]})
 (base:I) (e:jq) (i:TypeInfo) (z:jh) (size c:I) (g:P.underlying t=A (.slice e)) (j:P.info? e=A i) (k:i.zero=A z)
 (l:i.size=size) (p:i.bytes=c) (q:z.cells.size=size) (r:0<size)
 (v:jh) (n:I) (xs:je jh) (y:a.eval s=v) (B:w.ownsRow base e size v n xs) (u:jh) (m:I) (ys:je jh) (C:a.eval x=u) (D:cF w u size m ys) (E:∀u∈ys,u.oneCell'=jf)
 (F:n+m<=jY) (H:(n+m)*c<=140737488355328) (M:base<=w.heap.size)
 (h:∀b w',w'.ownsRow base e size b (n+m) (xs++ys)->w.grownBy w' v.ownBlock->K (a.put o.dst b) w'):o.wp P a w K d:=by
 obtain⟨b,w',Q,R,S⟩:=QZ (P:=P) w base t o.type e i z size c g j k l p q r v n xs B u m ys D E F H M;unfold Oper.wp jV;simp only[f,resolve,invoke,builtin,Sem.run_bind,Sem.run_pure,Result.andThen_ok,wx,xa,xd,y,C,Q];exact h b w' R S
theorem Nl(w:jc)(base:I)(t b e:jq)(i:TypeInfo)(z:jh)(size d:I)(h:P.underlying t=A (.slice e))(k:P.info? e=A i)(s:i.zero=A z)
 (x:i.size=size) (y:i.bytes=d) (B:z.cells.size=size) (C:0<size)
 (v:jh) (n:I) (xs:je jh) (f:w.ownsRow base e size v n xs) (u:jh) (m:I) (ys:je jh) (D:cF w u size m ys) (E:∀u∈ys,u.oneCell'=jf)
 (F:n+m<=jY) (H:(n+m)*d<=140737488355328) (K:base<=w.heap.size):
 ∃a w',(Builtin.append_ #[t,t] b #[v,u]).run P w=.ok a w'/\w'.ownsRow base e size a (n+m) (xs++ys)/\w.grownBy w' v.ownBlock/\(a.ownBlock=v.ownBlock\/a.ownBlock=A w.heap.size):=by
 obtain⟨l,p,c,rfl,W,M,Q⟩:=D
 rcases p with _|q
 ·have g:=M T
  subst g;obtain rfl:m=0:=Y;obtain rfl:ys=[]:=wv Y;exact⟨v,w,run_append_owned_none (P:=P) (w:=w) base t b e i size h k v n xs f,by simpa using f,q7.refl _ _,.inl rfl⟩
 have R:∀(j:I) u,ys[j]?=A u->w.cell? (q.add j)=A u:=?_
 ·obtain⟨a,w',g,o,r,_,S⟩:=run_append_own_at (P:=P) w base t b e i z size d h k s x y B C v n xs f q m c ys l R E F H K
  exact⟨a,w',g,o,r,S⟩
 intro j u r;have S:=(o3.1 r).1;have U:0<m:=by
  rcases qh m with g|g
  ·rw[l,g]at S;omega
  exact g
 obtain⟨g,o,e,V⟩:=Q U;obtain rfl:=qN.inj e;rw[uW];exact V j u r
theorem m0{w:jc}{o:jy}{a:Act}{K:Act->jc->Prop}{d:jT->Act->jc->Prop}(s x:nn)(t:jq)
 (f:o.op=.call {callee:=.builtin .append,args:=#[s,x],argTypes:=#[t,t]})
 (base:I) (e:jq) (i:TypeInfo) (z:jh) (size c:I) (g:P.underlying t=A (.slice e)) (j:P.info? e=A i) (k:i.zero=A z)
 (l:i.size=size) (p:i.bytes=c) (q:z.cells.size=size) (r:0<size)
 (v:jh) (n:I) (xs:je jh) (y:a.eval s=v) (B:w.ownsRow base e size v n xs) (u:jh) (m:I) (ys:je jh) (C:a.eval x=u) (D:cF w u size m ys) (E:∀u∈ys,u.oneCell'=jf)
 (F:n+m<=jY) (H:(n+m)*c<=140737488355328) (M:base<=w.heap.size)
 (h:∀b w',w'.ownsRow base e size b (n+m) (xs++ys)->w.grownBy w' v.ownBlock->(b.ownBlock=v.ownBlock\/b.ownBlock=A w.heap.size)->K (a.put o.dst b) w'):o.wp P a w K d:=by
 obtain⟨b,w',Q,R,S,U⟩:=Nl (P:=P) w base t o.type e i z size c g j k l p q r v n xs B u m ys D E F H M;unfold Oper.wp jV;simp only[f,resolve,invoke,builtin,Sem.run_bind,Sem.run_pure,Result.andThen_ok,wx,xa,xd,y,C,Q];exact h b w' R S U
end
end
section
section
variable {P:jI} {ops:jt jy} {Q:jT->Act->jc->Prop} {md:Region.Mode} {S:jc->Prop}
theorem su{a:Act}{d:I}{v:jh}(h:d<a.tmps.size):(a.put (A d) v).eval (.tmp d)=v:=by
 show(a.tmps.setIfInBounds d v).getD d jB=v;simp[Array.getD,h]
theorem fB{a:Act}{d e:I}{v:jh}(h:d≠e):(a.put (A d) v).eval (.tmp e)=a.eval (.tmp e):=by
 show(a.tmps.setIfInBounds d v).getD e jB=a.tmps.getD e jB;simp only[qH,xE h]
theorem pO{a:Act}{d:jE I}{v:jh}:(a.put d v).tmps.size=a.tmps.size:=by
 cases d<;>simp[Act.put]
theorem rH{i:I}{o:jy}{K:Act->jc->Prop}{a:Act}{w:jc}(b:ops[i]?=A o)(c:o.guard=jd)(h:o.wp P a w K Q):jK P ops Q i K a w:=by
 unfold jK;rw[b];show if Region.wanted o (jX ops a.tmps)=jf then _ else _
 rw[pz (by unfold Region.wanted;simp[c])];exact .inl h
theorem Bz{o:jy}{a:Act}{w w':jc}{K:Act->jc->Prop}{v:jh}(h:(jV a.eval o).run P w=.ok (.value v) w')(b:K (a.put o.dst v) w'):o.wp P a w K Q:=by
 unfold Oper.wp;rw[h];exact b
theorem fS{o:jy}{a:Act}{w:jc}{K:Act->jc->Prop}(t:jq)(b:o.op=.alloc t)(Z:jt jh)
 (c:∀w,(Instr.alloc t jf (jL #[])).run P w=.ok (jG (A ⟨w,0,jd⟩)) (w.alloc (jj Z t))) (h:K (a.put o.dst (jG (A ⟨w,0,jd⟩))) (w.alloc (jj Z t))):o.wp P a w K Q:=by
 refine Bz (v:=jG (A ⟨w,0,jd⟩)) (w':=w.alloc (jj Z t)) ?_ h;unfold jV;simp only[b,Sem.run_bind,c,Result.andThen_ok,Sem.run_pure]
end
end
theorem Ii(a b:I)(c:a<4294967296)(d:b<4294967296):bits .or .u32 (a:N) (b:N)=((a|||b:I):N):=
 (bits_nat .u32 32 G (λn e f=>IntWalk.u32_in n Y) a b Y Y).2
theorem O3(a b:I)(c:a<4294967296)(d:b<4294967296):bits .and .u32 (a:N) (b:N)=((a&&&b:I):N):=
 (bits_nat .u32 32 G (λn e f=>IntWalk.u32_in n Y) a b Y Y).1
theorem Kt(a b:I)(c:a<4294967296)(d:b<4294967296):bits .xor .u32 (a:N) (b:N)=((a^^^b:I):N):=by
 have e:a%2^32=a:=j3 c;have f:b%2^32=b:=j3 d;have g:a^^^b<2^32:=Nat.xor_lt_two_pow c d;show jo.wrap ((xM 32 (a:N)^^^xM 32 (b:N)).toNat:N)=_;simp only[BitVec.ofInt_natCast,xN,xe,e,f];exact IntWalk.u32_in _ Y
theorem bor(x y:jl 32):bits .or .u32 (x.toNat:N) (y.toNat:N)=((x|||y).toNat:N):=by rw[Ii _ _ x.isLt y.isLt,xO]
theorem EL(x y:jl 32):bits .and .u32 (x.toNat:N) (y.toNat:N)=((x&&&y).toNat:N):=by rw[O3 _ _ x.isLt y.isLt,BitVec.toNat_and]
theorem iG(x y:jl 32):bits .xor .u32 (x.toNat:N) (y.toNat:N)=((x^^^y).toNat:N):=by rw[Kt _ _ x.isLt y.isLt,xN]
theorem ly(x y:jl 32):((x.toNat:N)+(y.toNat:N))%4294967296=((x+y).toNat:N):=by rw[xP];simp
theorem Ad(x:jl 32)(n d:I)(a:d=2^n):(x.toNat:N)/(d:N)=((x>>>n).toNat:N):=by rw[xf,xg,a];simp
theorem Ai(x:jl 8)(n d:I)(a:n<=24)(b:d=2^n):(x.toNat:N)*(d:N)=((x.setWidth 32<<<n).toNat:N):=by
 have g:=x.isLt;have c:2^n<=2^24:=wq G a;have e:x.toNat*2^n<2^32:=by
  have:x.toNat*2^n<=255*2^24:=Nat.mul_le_mul Y c;omega
 have f:x.toNat%2^32=x.toNat:=j3 Y;rw[xh,qQ,q8,f,j3 e,b];simp
theorem EJ(x:jl 8):(x.toNat:N)=((x.setWidth 32).toNat:N):=by
 have a:=x.isLt;rw[qQ,j3 Y]
theorem ip(x:jl 32)(k m d:I)(a:k<32)(b:m=2^k)(c:d=2^(32-k)):
 bits .or .u32 ((x.toNat:N)*(m:N)%4294967296) ((x.toNat:N)/(d:N))=((x.rotateLeft k).toNat:N):=by
 have e:((x.toNat:N)*(m:N)%4294967296)=((x.toNat*m%4294967296:I):N):=by simp
 have f:((x.toNat:N)/(d:N))=((x.toNat/d:I):N):=by simp
 have g:x.toNat/d<4294967296:=Nat.lt_of_le_of_lt (xL _ _) (cT x.isLt);rw[e,f,Ii _ _ (qP _ G) g,xQ,j3 a,xO,xh,xf,q8,xg,<-b,<-c]
theorem lN(x:jl 32)(k:I)(h:0<k)(a:k<32):x.rotateLeft (32-k)=x.rotateRight k:=by
 rw[xQ,BitVec.rotateRight_def,j3 a,j3 (by omega:32-k<32),show 32-(32-k)=k by omega,BitVec.or_comm]
theorem fP{o b:N}(h:o=b):Ending.returned (ja jr o)=js (ja jr b):=by rw[h]
theorem Tw(x:jl 32)(w:jc):
 ju ji 245 #[ja jr x.toNat,ja jg 16] w λe w'=>e=js (ja jr (x.rotateLeft 16).toNat)/\w=w':=by
 have a:bits .and .u64 16 31=16:=by decide
 go_enter j6,j7
 go_wp2
 go_ret;exact⟨fP (ip x 16 65536 65536 G G G),T⟩
theorem SE(x:jl 32)(w:jc):
 ju ji 245 #[ja jr x.toNat,ja jg 12] w λe w'=>e=js (ja jr (x.rotateLeft 12).toNat)/\w=w':=by
 have a:bits .and .u64 12 31=12:=by decide
 go_enter j6,j7
 go_wp2
 go_ret;exact⟨fP (ip x 12 4096 1048576 G G G),T⟩
theorem Jr(x:jl 32)(w:jc):
 ju ji 245 #[ja jr x.toNat,ja jg 8] w λe w'=>e=js (ja jr (x.rotateLeft 8).toNat)/\w=w':=by
 have a:bits .and .u64 8 31=8:=by decide
 go_enter j6,j7
 go_wp2
 go_ret;exact⟨fP (ip x 8 256 16777216 G G G),T⟩
theorem JJ(x:jl 32)(w:jc):
 ju ji 245 #[ja jr x.toNat,ja jg 7] w λe w'=>e=js (ja jr (x.rotateLeft 7).toNat)/\w=w':=by
 have a:bits .and .u64 7 31=7:=by decide
 go_enter j6,j7
 go_wp2
 go_ret;exact⟨fP (ip x 7 128 33554432 G G G),T⟩
theorem QJ(x:jl 32)(w:jc):
 ju ji 245 #[ja jr x.toNat,ja jg (-7)] w λe w'=>e=js (ja jr (x.rotateRight 7).toNat)/\w=w':=by
 rw[<-lN x 7 G G];have a:bits .and .u64 (jJ.wrap (-7)) 31=25:=by decide
 go_enter j6,j7
 go_wp2
 go_ret;exact⟨fP (ip x 25 33554432 128 G G G),T⟩
theorem O8(x:jl 32)(w:jc):
 ju ji 245 #[ja jr x.toNat,ja jg (-18)] w λe w'=>e=js (ja jr (x.rotateRight 18).toNat)/\w=w':=by
 rw[<-lN x 18 G G];have a:bits .and .u64 (jJ.wrap (-18)) 31=14:=by decide
 go_enter j6,j7
 go_wp2
 go_ret;exact⟨fP (ip x 14 16384 262144 G G G),T⟩
theorem Qa(x:jl 32)(w:jc):
 ju ji 245 #[ja jr x.toNat,ja jg (-17)] w λe w'=>e=js (ja jr (x.rotateRight 17).toNat)/\w=w':=by
 rw[<-lN x 17 G G];have a:bits .and .u64 (jJ.wrap (-17)) 31=15:=by decide
 go_enter j6,j7
 go_wp2
 go_ret;exact⟨fP (ip x 15 32768 131072 G G G),T⟩
theorem QG(x:jl 32)(w:jc):
 ju ji 245 #[ja jr x.toNat,ja jg (-19)] w λe w'=>e=js (ja jr (x.rotateRight 19).toNat)/\w=w':=by
 rw[<-lN x 19 G G];have a:bits .and .u64 (jJ.wrap (-19)) 31=13:=by decide
 go_enter j6,j7
 go_wp2
 go_ret;exact⟨fP (ip x 13 8192 524288 G G G),T⟩
theorem QM(x:jl 32)(w:jc):
 ju ji 245 #[ja jr x.toNat,ja jg (-6)] w λe w'=>e=js (ja jr (x.rotateRight 6).toNat)/\w=w':=by
 rw[<-lN x 6 G G];have a:bits .and .u64 (jJ.wrap (-6)) 31=26:=by decide
 go_enter j6,j7
 go_wp2
 go_ret;exact⟨fP (ip x 26 67108864 64 G G G),T⟩
theorem Qp(x:jl 32)(w:jc):
 ju ji 245 #[ja jr x.toNat,ja jg (-11)] w λe w'=>e=js (ja jr (x.rotateRight 11).toNat)/\w=w':=by
 rw[<-lN x 11 G G];have a:bits .and .u64 (jJ.wrap (-11)) 31=21:=by decide
 go_enter j6,j7
 go_wp2
 go_ret;exact⟨fP (ip x 21 2097152 2048 G G G),T⟩
theorem TD(x:jl 32)(w:jc):
 ju ji 245 #[ja jr x.toNat,ja jg (-25)] w λe w'=>e=js (ja jr (x.rotateRight 25).toNat)/\w=w':=by
 rw[<-lN x 25 G G];have a:bits .and .u64 (jJ.wrap (-25)) 31=7:=by decide
 go_enter j6,j7
 go_wp2
 go_ret;exact⟨fP (ip x 7 128 33554432 G G G),T⟩
theorem JA(x:jl 32)(w:jc):
 ju ji 245 #[ja jr x.toNat,ja jg (-2)] w λe w'=>e=js (ja jr (x.rotateRight 2).toNat)/\w=w':=by
 rw[<-lN x 2 G G];have a:bits .and .u64 (jJ.wrap (-2)) 31=30:=by decide
 go_enter j6,j7
 go_wp2
 go_ret;exact⟨fP (ip x 30 1073741824 4 G G G),T⟩
theorem KS(x:jl 32)(w:jc):
 ju ji 245 #[ja jr x.toNat,ja jg (-13)] w λe w'=>e=js (ja jr (x.rotateRight 13).toNat)/\w=w':=by
 rw[<-lN x 13 G G];have a:bits .and .u64 (jJ.wrap (-13)) 31=19:=by decide
 go_enter j6,j7
 go_wp2
 go_ret;exact⟨fP (ip x 19 524288 8192 G G G),T⟩
theorem M6(x:jl 32)(w:jc):
 ju ji 245 #[ja jr x.toNat,ja jg (-22)] w λe w'=>e=js (ja jr (x.rotateRight 22).toNat)/\w=w':=by
 rw[<-lN x 22 G G];have a:bits .and .u64 (jJ.wrap (-22)) 31=10:=by decide
 go_enter j6,j7
 go_wp2
 go_ret;exact⟨fP (ip x 10 1024 4194304 G G G),T⟩
def le4(a b c d:jl 8):jl 32:=a.setWidth 32|||b.setWidth 32<<<8|||c.setWidth 32<<<16|||d.setWidth 32<<<24
theorem Pn(d a b c:jl 8):bits .or .u32 (bits .or .u32 (bits .or .u32 (d.toNat:N) ((a.toNat:N)*256)) ((b.toNat:N)*65536)) ((c.toNat:N)*16777216)=((le4 d a b c).toNat:N):=by
 rw[EJ d,show((a.toNat:N)*256)=_ from Ai a 8 256 G G,show((b.toNat:N)*65536)=_ from Ai b 16 65536 G G,
  show((c.toNat:N)*16777216)=_ from Ai c 24 16777216 G G,bor,bor,bor];rfl
theorem Em(g o c n:I)(h:4<=n)(i:n<4611686018427387904)(a b d f:jl 8)(w:jc)(j:w.cell? ⟨g,o,jd⟩=A (ja jF a.toNat))(k:w.cell? ⟨g,o+1,jd⟩=A (ja jF b.toNat))
 (l:w.cell? ⟨g,o+2,jd⟩=A (ja jF d.toNat)) (m:w.cell? ⟨g,o+3,jd⟩=A (ja jF f.toNat)):
 ju ji 268 #[jp (A ⟨g,o,jd⟩) n c] w λe w'=>e=js (ja jr (le4 a b d f).toNat)/\∃q,w'=w.drewN q:=by
 go_enter func268,ntmps268
 go_wp2
 go_quiet (fail)
 go_wp2
 go_ret;exact⟨fP (Pn a b d f),_,T⟩
def aU(W:jc)(g:I)(t:jq)(v:je (jl 32)):Prop:=
 W.heap[g]?=A (jj (v.map λx=>jb .u32 (x.toNat:N)).toArray t (0,0))
theorem aU.cell{g:I}{v:je (jl 32)}(h:aU W g t v){i:I}(a:i<v.length):
 W.cell? ⟨g,i,jd⟩=A (ja jr (v.getD i 0).toNat):=by
 simp[j4,show W.heap[g]?=_ from h,a,jU]
theorem aU.frozen(h:aU w B t u)(i:I):w.frozen? ⟨B,i,jd⟩=jz:=by
 simp[xR,show w.heap[B]?=_ from h]
theorem aU.lt(h:aU w B t u):B<w.heap.size:=(jQ.1 h).1
theorem aU.set{g:I}{v:je (jl 32)}(h:aU W g t v)(i:I)(x:jl 32):
 aU (W.setCell ⟨g,i,jd⟩ (ja jr x.toNat)) g t (v.set i x):=by
 have a:=h.lt;have b:W.heap[g]=_:=(jQ.1 h).2;show(W.heap.modify g _)[g]?=_;rw[xi];simp[a,b,List.map_set]
structure bR(g:I)(w w':jc):Prop where
 os:w'.os=w.os
 tape:w'.tape=w.tape
 output:w'.output=w.output
 size:w'.heap.size=w.heap.size
 block:∀k,k≠g->w'.heap[k]?=w.heap[k]?
theorem bR.refl(g:I)(w:jc):bR g w w:=⟨T,T,T,T,λ_ _=>rfl⟩
theorem bR.trans{g:I}{b c:jc}(h:bR g a b)(k:bR g b c):bR g a c:=
 ⟨k.os.trans h.os,k.tape.trans h.tape,k.output.trans h.output,k.size.trans h.size,λi d=>(k.block i d).trans (h.block i d)⟩
theorem bR.setCell(g i:I)(w:jc)(x:jh):bR g w (w.setCell ⟨g,i,jd⟩ x):=
 ⟨rfl,rfl,rfl,by simp[xj],λk a=>qe _ _ _ _ a⟩
theorem bR.below{g:I}(h:bR g w w')(a:B<=g):jn B w w':=
 ⟨h.os,h.tape,h.output,qO h.size.symm,λk b=>h.block k Y⟩
def stA(v:je (jl 32))(a b:I):je (jl 32):=v.set a (v.getD a 0+v.getD b 0)
def stD(v:je (jl 32))(d a k:I):je (jl 32):=v.set d ((v.getD d 0^^^v.getD a 0).rotateLeft k)
def qr(v:je (jl 32))(a b c d:I):je (jl 32):=
 stD (stA (stD (stA (stD (stA (stD (stA v a b) d a 16) c d) b c 12) a b) d a 8) c d) b c 7
theorem tG(v a b):(stA v a b).length=v.length:=by simp[stA]
theorem vK(v a b k):(stD v a b k).length=v.length:=by simp[stD]
theorem C5(v a b c d):(qr v a b c d).length=v.length:=by simp[qr,tG,vK]
theorem Om(x y z:jl 32)(a:jm ((x^^^y).rotateLeft 16=z))(w:jc):
 ju ji 245 #[ja jr (bits .xor .u32 (x.toNat:N) (y.toNat:N)),ja jg 16] w λe w'=>e=js (ja jr z.toNat)/\w=w':=by
 rw[iG,<-a];exact Tw _ _
theorem PQ(x y z:jl 32)(a:jm ((x^^^y).rotateLeft 12=z))(w:jc):
 ju ji 245 #[ja jr (bits .xor .u32 (x.toNat:N) (y.toNat:N)),ja jg 12] w λe w'=>e=js (ja jr z.toNat)/\w=w':=by
 rw[iG,<-a];exact SE _ _
theorem NW(x y z:jl 32)(a:jm ((x^^^y).rotateLeft 8=z))(w:jc):
 ju ji 245 #[ja jr (bits .xor .u32 (x.toNat:N) (y.toNat:N)),ja jg 8] w λe w'=>e=js (ja jr z.toNat)/\w=w':=by
 rw[iG,<-a];exact Jr _ _
theorem Ul(x y z:jl 32)(a:jm ((x^^^y).rotateLeft 7=z))(w:jc):
 ju ji 245 #[ja jr (bits .xor .u32 (x.toNat:N) (y.toNat:N)),ja jg 7] w λe w'=>e=js (ja jr z.toNat)/\w=w':=by
 rw[iG,<-a];exact JJ _ _
theorem FZ(g:I)(t:jq)(v:je (jl 32))(Q:v.length=16)(a b c d:I)(ha:(a:N)<16)(hb:(b:N)<16)(hc:(c:N)<16)(hd:(d:N)<16)(w:jc)
 (h:aU w g t v):
 ju ji 264 #[jG (A ⟨g,0,jd⟩),ja jg a,ja jg b,ja jg c,ja jg d] w λe w'=>
  e=js (jL #[])/\bR g w w'/\aU w' g t (qr v a b c d):=by
 have f:bR g w w:=bR.refl g w;have n:qr v a b c d=stD (stA (stD (stA (stD (stA (stD (stA v a b) d a 16) c d) b c 12) a b) d a 8) c d) b c 7:=T;generalize qr v a b c d=R at n⊢;replace n:=O n
 go_enter func264,ntmps264
 replace f:=O f;replace h:=O h
 go_upto_region 0 with fail
 go_cut []from 10 to 22 (λl=>aU l g t (stA v a b)/\bR g w l)
 case first=>
  have m:=h.cell (i:=a) Y;have B:=h.cell (i:=b) Y;have F:=h.frozen a;generalize j:v.getD a 0=x at m;generalize k:v.getD b 0=y at B;replace j:=O j;replace k:=O k
  go_region
  rw[ly x y]
  go_wp2_with fail
  go_meet
  refine⟨?_,?_⟩
  ·rw[stA,j,k];exact h.set _ _
  exact f.trans ((bR.setCell g a w (ja jr (x+y).toNat)).trans ⟨T,T,T,T,λ_ _=>rfl⟩)
 obtain⟨o,f⟩:=hcut;clear h;have D:(stA v a b).length=16:=by rw[tG];exact Q
 generalize stA v a b=q at o D n;generalize wc=S at*;replace f:=O f;replace o:=O o
 go_upto_region 1 with fail
 go_cut []from 23 to 38 (λl=>aU l g t (stD q d a 16)/\bR g w l)
 case first=>
  have m:=o.cell (i:=d) Y;have B:=o.cell (i:=a) Y;have F:=o.frozen d;generalize j:q.getD d 0=x at m;generalize k:q.getD a 0=y at B;replace j:=O j;replace k:=O k;obtain⟨z,h⟩:∃z,jm ((x^^^y).rotateLeft 16=z):=⟨_,O T⟩
  go_region_with (go_at_call 245;refine(Om x y z h _).mono ?_;rintro e w' ⟨rfl,rfl⟩)
  all_goals
   go_wp2_with fail
   go_meet
   refine⟨?_,?_⟩
   ·rw[stD,j,k,h];exact o.set _ _
   exact f.trans ((bR.setCell g d S (ja jr z.toNat)).trans ⟨T,T,T,T,λ_ _=>rfl⟩)
 obtain⟨p,f⟩:=hcut;clear o;have E:(stD q d a 16).length=16:=by rw[vK];exact D
 generalize stD q d a 16=r at p E n;generalize wc=U at*;replace f:=O f;replace p:=O p
 go_upto_region 2 with fail
 go_cut []from 39 to 51 (λl=>aU l g t (stA r c d)/\bR g w l)
 case first=>
  have m:=p.cell (i:=c) Y;have B:=p.cell (i:=d) Y;have F:=p.frozen c;generalize j:r.getD c 0=x at m;generalize k:r.getD d 0=y at B;replace j:=O j;replace k:=O k
  go_region
  rw[ly x y]
  go_wp2_with fail
  go_meet
  refine⟨?_,?_⟩
  ·rw[stA,j,k];exact p.set _ _
  exact f.trans ((bR.setCell g c U (ja jr (x+y).toNat)).trans ⟨T,T,T,T,λ_ _=>rfl⟩)
 obtain⟨o,f⟩:=hcut;clear p;have H:(stA r c d).length=16:=by rw[tG];exact E
 generalize stA r c d=s at o H n;generalize wc=V at*;replace f:=O f;replace o:=O o
 go_upto_region 3 with fail
 go_cut []from 52 to 67 (λl=>aU l g t (stD s b c 12)/\bR g w l)
 case first=>
  have m:=o.cell (i:=b) Y;have B:=o.cell (i:=c) Y;have F:=o.frozen b;generalize j:s.getD b 0=x at m;generalize k:s.getD c 0=y at B;replace j:=O j;replace k:=O k;obtain⟨z,h⟩:∃z,jm ((x^^^y).rotateLeft 12=z):=⟨_,O T⟩
  go_region_with (go_at_call 245;refine(PQ x y z h _).mono ?_;rintro e w' ⟨rfl,rfl⟩)
  all_goals
   go_wp2_with fail
   go_meet
   refine⟨?_,?_⟩
   ·rw[stD,j,k,h];exact o.set _ _
   exact f.trans ((bR.setCell g b V (ja jr z.toNat)).trans ⟨T,T,T,T,λ_ _=>rfl⟩)
 obtain⟨p,f⟩:=hcut;clear o;have K:(stD s b c 12).length=16:=by rw[vK];exact H
 generalize stD s b c 12=u at p K n;generalize wc=W at*;replace f:=O f;replace p:=O p
 go_upto_region 4 with fail
 go_cut []from 68 to 80 (λl=>aU l g t (stA u a b)/\bR g w l)
 case first=>
  have m:=p.cell (i:=a) Y;have B:=p.cell (i:=b) Y;have F:=p.frozen a;generalize j:u.getD a 0=x at m;generalize k:u.getD b 0=y at B;replace j:=O j;replace k:=O k
  go_region
  rw[ly x y]
  go_wp2_with fail
  go_meet
  refine⟨?_,?_⟩
  ·rw[stA,j,k];exact p.set _ _
  exact f.trans ((bR.setCell g a W (ja jr (x+y).toNat)).trans ⟨T,T,T,T,λ_ _=>rfl⟩)
 obtain⟨o,f⟩:=hcut;clear p;have M:(stA u a b).length=16:=by rw[tG];exact K
 generalize stA u a b=C at o M n;generalize wc=X at*;replace f:=O f;replace o:=O o
 go_upto_region 5 with fail
 go_cut []from 81 to 96 (λl=>aU l g t (stD C d a 8)/\bR g w l)
 case first=>
  have m:=o.cell (i:=d) Y;have B:=o.cell (i:=a) Y;have F:=o.frozen d;generalize j:C.getD d 0=x at m;generalize k:C.getD a 0=y at B;replace j:=O j;replace k:=O k;obtain⟨z,h⟩:∃z,jm ((x^^^y).rotateLeft 8=z):=⟨_,O T⟩
  go_region_with (go_at_call 245;refine(NW x y z h _).mono ?_;rintro e w' ⟨rfl,rfl⟩)
  all_goals
   go_wp2_with fail
   go_meet
   refine⟨?_,?_⟩
   ·rw[stD,j,k,h];exact o.set _ _
   exact f.trans ((bR.setCell g d X (ja jr z.toNat)).trans ⟨T,T,T,T,λ_ _=>rfl⟩)
 obtain⟨p,f⟩:=hcut;clear o;have P:(stD C d a 8).length=16:=by rw[vK];exact M
 generalize stD C d a 8=o at p P n;generalize wc=W6 at*;replace f:=O f;replace p:=O p
 go_upto_region 6 with fail
 go_cut []from 97 to 109 (λl=>aU l g t (stA o c d)/\bR g w l)
 case first=>
  have m:=p.cell (i:=c) Y;have B:=p.cell (i:=d) Y;have F:=p.frozen c;generalize j:o.getD c 0=x at m;generalize k:o.getD d 0=y at B;replace j:=O j;replace k:=O k
  go_region
  rw[ly x y]
  go_wp2_with fail
  go_meet
  refine⟨?_,?_⟩
  ·rw[stA,j,k];exact p.set _ _
  exact f.trans ((bR.setCell g c W6 (ja jr (x+y).toNat)).trans ⟨T,T,T,T,λ_ _=>rfl⟩)
 obtain⟨l,f⟩:=hcut;clear p;have l7:(stA o c d).length=16:=by rw[tG];exact P
 generalize stA o c d=p at l l7 n;generalize wc=W7 at*;have f:=O f;replace l:=O l
 go_upto_region 7 with fail
 have m:=l.cell (i:=b) Y;have B:=l.cell (i:=c) Y;have F:=l.frozen b;generalize j:p.getD b 0=x at m;generalize k:p.getD c 0=y at B;replace j:=O j;replace k:=O k;obtain⟨z,h⟩:∃z,jm ((x^^^y).rotateLeft 7=z):=⟨_,O T⟩
 go_region_with (go_at_call 245;refine(Ul x y z h _).mono ?_;rintro e w' ⟨rfl,rfl⟩)
 all_goals
  go_wp2_with fail
  go_end0
  refine⟨T,?_,?_⟩
  ·exact f.trans ((bR.setCell g b W7 (ja jr z.toNat)).trans ⟨T,T,T,T,λ_ _=>rfl⟩)
  rw[n,stD,j,k,h];exact l.set _ _
abbrev v8(x:jl 8):jh:=jb .u8 (x.toNat:N)
abbrev cB(x:jl 32):jh:=jb .u32 (x.toNat:N)
def cJ(W:jc)(g:I)(t:jq)(v:LBy):Prop:=
 W.heap[g]?=A (jj (v.map v8).toArray t (0,0))
theorem cJ.cell{g:I}{v:LBy}(h:cJ W g t v){i:I}(a:i<v.length):
 W.cell? ⟨g,i,jd⟩=A (ja jF (v.getD i 0).toNat):=by
 simp[j4,show W.heap[g]?=_ from h,a,jU,v8]
theorem cJ.below{g:I}{v:LBy}(h:cJ W g t v)(b:jn B W a)(c:g<B):cJ a g t v:=(b.block g c).trans h
theorem aU.below{g:I}{v:je (jl 32)}(h:aU W g t v)(b:jn B W a)(c:g<B):aU a g t v:=(b.block g c).trans h
def kL:je (jl 32):=[0x61707865,0x3320646e,0x79622d32,0x6b206574]
def rz(b:LBy)(i:I):jl 32:=le4 (b.getD i 0) (b.getD (i+1) 0) (b.getD (i+2) 0) (b.getD (i+3) 0)
def ng(kb:LBy):I->je (jl 32)
 |0=>kL++nv 12 0
 |i+1=>(ng kb i).set (4+i) (rz kb (4*i))
def pE(kb a:LBy)(c:jl 32):I->je (jl 32)
 |0=>(ng kb 8).set 12 c
 |i+1=>(pE kb a c i).set (13+i) (rz a (4*i))
theorem By(kb i):(ng kb i).length=16:=by induction i with
 |zero=>rfl
 |succ i a=>simp[ng,a]
theorem Il(kb nb c i):(pE kb nb c i).length=16:=by induction i with
 |zero=>simp[pE,By]
 |succ i a=>simp[pE,a]
def fx(kb a:LBy)(c:jl 32):je (jl 32):=pE kb a c 3
theorem Bj(kb nb c):(fx kb nb c).length=16:=Il _ _ _ _
theorem rx{b:I×I}{h:jt jh}(a:w.heap[B]?=A (jj h t b)):w.setRow B h=w:=by
 have c:=(jQ.1 a);obtain⟨d,he⟩:=c;unfold World.setRow
 congr 1
 apply Array.ext_getElem?
 intro i;rw[xi]
 split
 ·rename_i e;subst e;simp[d,he]
 rfl
def sU(w:jc):Prop:=Lib.TabIs ji w "chartroom/cipher.constants" .u32 [0x61707865,0x3320646e,0x79622d32,0x6b206574]
theorem sR:ji.globalNamed "chartroom/cipher.constants" =A 7:=by kernel_rfl
theorem mf(h:w.cell? ⟨B,b,jd⟩=A e):B<w.heap.size:=by
 rcases qI B w.heap.size with a|a
 ·exact a
 simp[j4,sq a]at h
theorem NK(b:w.cell? ⟨7,0,jd⟩=A (ja jr 0x61707865))(t1:w.cell? ⟨7,1,jd⟩=A (ja jr 0x3320646e))(t2:w.cell? ⟨7,2,jd⟩=A (ja jr 0x79622d32))(c:w.cell? ⟨7,3,jd⟩=A (ja jr 0x6b206574)):
 ∀(j:I) (v:jh),(kL.map cB)[j]?=A v->w.cell? ((⟨7,0,jd⟩:jP).add j)=A v:=by
 intro j v a
 match j,a with
 |0,a=>simp[kL,cB]at a;subst a;exact b
 |1,a=>simp[kL,cB]at a;subst a;exact t1
 |2,a=>simp[kL,cB]at a;subst a;exact t2
 |3,a=>simp[kL,cB]at a;subst a;exact c
 |j+4,a=>simp[kL]at a
theorem gh{p:jP}(h:w.cell? p=A e)(w':a.heap[p.block]?=w.heap[p.block]?):a.cell? p=A e:=by
 unfold j4 at*;rw[w'];exact h
theorem N6(w:jc)(a B C:Obj):((((w.alloc a).alloc B).alloc C).drew).heap[w.heap.size+1+1]?=A C:=by
 show(((w.alloc a).alloc B).alloc C).heap[w.heap.size+1+1]?=A C;have:=jO ((w.alloc a).alloc B) C
 simpa using this
theorem Ir(w:jc)(a B C:Obj)(k:I)(b:k<w.heap.size):((((w.alloc a).alloc B).alloc C).drew).heap[k]?=w.heap[k]?:=by
 show(((w.alloc a).alloc B).alloc C).heap[k]?=_;rw[jH _ _ _ (by simp;omega),jH _ _ _ (by simp;omega),jH _ _ _ b]
theorem Qk:∀v∈kL.map cB,v.oneCell'=jf:=by
 intro v a;obtain⟨x,_,rfl⟩:=qc.1 a
 rfl
theorem DY(t e:jq)(n:I)(a:P.underlying t=A (.array n e))(c:∀w,(sizeOf e).run P w=.ok 1 w)(g o l:I)(d:l<n)(W:jc):
 (Instr.sliceAt t (jG (A ⟨g,o,jd⟩)) (A (ja jg (l:N))) jd jd).run P W=.ok (jp (A ⟨g,o+l,jd⟩) (n-l) (n-l)) W:=by
 have he:P.elem t=e:=by simp[Program.elem,a]
 have b:P.arrayLen t=n:=by simp[Program.arrayLen,a]
 rw[run_sliceAt_array_l W t _ (by rw[he,b];exact a) .i64 _ Y (by rw[b];omega)];rw[he,b];simp[c,Result.andThen,slicedAt,Addr.add];rw[j5 Y]
 split<;>simp[*]
theorem iJ:∀w,(sizeOf 5).run ji w=.ok 1 w:=λw=>by go_simp
theorem Rv(kb a:LBy)(c:jl 32)(w:jc)(E:kb.length=32)(V:a.length=12)(d:sU w):
 ju ji 263 #[jS (kb.map v8).toArray,jS (a.map v8).toArray,ja jr c.toNat] w λe w'=>
  e=js (jS ((fx kb a c).map cB).toArray)/\jn w w w':=by
 have q:w.cell? ⟨7,0,jd⟩=A (ja jr 0x61707865):=d.cell sR 0 G;have r:7<w.heap.size:=mf q;have t1:w.cell? ⟨7,1,jd⟩=A (ja jr 0x3320646e):=d.cell sR 1 G;have t2:w.cell? ⟨7,2,jd⟩=A (ja jr 0x79622d32):=d.cell sR 2 G;have u:w.cell? ⟨7,3,jd⟩=A (ja jr 0x6b206574):=d.cell sR 3 G;generalize s:(kb.map v8).toArray=l;generalize t:(a.map v8).toArray=m;replace s:=O s;replace t:=O t;replace d:=O d
 go_enter func263,ntmps263
 go_wp2
 obtain⟨Z,f⟩:∃Z:je jh,Z=nv 16 (ja jr 0):=⟨_,T⟩;have i: #[jb jo 0,jb jo 0,jb jo 0,jb jo 0,
  jb jo 0,jb jo 0,jb jo 0,jb jo 0,
  jb jo 0,jb jo 0,jb jo 0,jb jo 0,
  jb jo 0,jb jo 0,jb jo 0,jb jo 0]=Z.toArray:=by rw[f];rfl
 replace f:=O f;rw[i];replace i:=O i;have j:=N6 w (jj l 63) (jj m 247) (jj Z.toArray 357);have g:=Ir w (jj l 63) (jj m 247) (jj Z.toArray 357) 7 r;have n:=NK (gh q g) (gh t1 g) (gh t2 g) (gh u g);have o:0+(kL.map cB).length<=Z.length:=by rw[f];decide
 replace j:=O j;replace n:=O n;clear g;replace o:=O o
 go_region_law (refine step_copy_splice T (.tmp 9) (.tmp 10) 342 342 T 223 underlying342 T (A ⟨w.heap.size+1+1,0,jd⟩) (A ⟨7,0,jd⟩) 16 16 4 4 (by simp[Act.eval,Act.put]) (by simp[Act.eval,Act.put]) (w.heap.size+1+1) 0 Z 357 j (kL.map cB) T (λ_=>⟨T,_,T,n⟩) o Qk (w.heap.size+1+1) _ (jM _ _) (jA _) ?_;intro h v g)
 have x:aU h (w.heap.size+1+1) 357 (ng kb 0):=by
  have e:splice Z 0 (kL.map cB)=(ng kb 0).map cB:=by rw[f];rfl
  show h.heap[_]?=_;rw[v,e]
 have p:cJ h w.heap.size 63 kb:=by
  show h.heap[_]?=_;rw[g.block _ Y,s];show(((w.alloc (jj l 63)).alloc (jj m 247)).alloc (jj Z.toArray 357)).heap[w.heap.size]?=_;rw[jH _ _ _ (by simp;omega),jH _ _ _ ar,jO]
 have y:cJ h (w.heap.size+1) 247 a:=by
  show h.heap[_]?=_;rw[g.block _ Y,t];show(((w.alloc (jj l 63)).alloc (jj m 247)).alloc (jj Z.toArray 357)).heap[w.heap.size+1]?=_;rw[jH _ _ _ ar];have:=jO (w.alloc (jj l 63)) (jj m 247)
  simpa using this
 have z:jn w w h:=by
  refine Below.trans (b:=(((w.alloc (jj l 63)).alloc (jj m 247)).alloc (jj Z.toArray 357)).drew) ⟨T,T,T,?_,λk E=>Ir w _ _ _ k E⟩ (g.mono Y);show w.heap.size<=(((w.alloc (jj l 63)).alloc (jj m 247)).alloc (jj Z.toArray 357)).heap.size;simp;omega
 have K:=O x;have M:=O p;have Q:=O y;have R:=O z;clear x p y z v g o n j f i q t1 t2 u d
 go_wp2_with fail
 go_loopw [12] (λi wr=>∃j:I,i=ja jg j/\j<=8/\jm (aU wr (w.heap.size+1+1) 357 (ng kb j))/\jm (bR (w.heap.size+1+1) h wr)) (λi _=>(8-jC i).toNat)
 case atStart=>exact⟨0,T,by omega,K,bR.refl _ _⟩
 obtain⟨j,rfl,S,f,k⟩:=hrel
 by_cases r:j<8
 ·have g:cJ wr (w.heap.size) 63 kb:=(k.block _ Y).trans M
  have k0:=g.cell (i:=4*j) Y;have n:=g.cell (i:=4*j+1) Y;have k2:=g.cell (i:=4*j+2) Y;have o:=g.cell (i:=4*j+3) Y;have F:=f.frozen (4+j);have C:=f.cell (i:=4+j) (by rw[By];omega);have u:=O k0;have v:=O n;have y:=O k2;have z:=O o;clear k0 n k2 o g;have U:∀W,(Instr.sliceAt 63 (jG (A ⟨w,0,jd⟩)) (A (ja jg (4*(j:N)))) jd jd).run ji W=.ok (jp (A ⟨w,4*j,jd⟩) (32-4*j) (32-4*j)) W:=λW=>by
   have:=DY (P:=ji) 63 5 32 underlying63 iJ (w.heap.size) 0 (4*j) Y W
   simpa using this
  go_wp2_with fail
  refine(Em _ _ _ _ ?_ ?_ _ _ _ _ _ u.out v y z).mono ?_
  ·omega
  ·omega
  rintro e w' ⟨rfl,q,rfl⟩;have d:le4 (kb.getD (4*j) 0) (kb.getD (4*j+1) 0) (kb.getD (4*j+2) 0) (kb.getD (4*j+3) 0)=rz kb (4*j):=T;rw[d];clear d;obtain⟨x,d⟩:=J (rz kb (4*j));rw[<-d];have B:=O d;clear d
  go_wp2
  go_roundw
  case rel=>
   refine⟨j+1,by go_num,by omega,?_,?_⟩
   ·show aU _ _ _ (q9 _ _ _)
    rw[<-B];exact aU.set (W:=wr.drewN q) f _ _
   exact k.trans (bR.trans (b:=wr.drewN q) ⟨T,T,T,T,λ_ _=>rfl⟩ (bR.setCell _ _ _ _))
  case measure=>simp[jC];omega
 have H:j=8:=Y;have D:jm (aU wr (w.heap.size+1+1) 357 (ng kb 8)):=H▸f;clear f H;have F:=D.frozen 12;have C:=D.cell (i:=12) (by rw[By];omega)
 go_wp2_with fail
 clear F C
 go_loopw [25] (λi wr=>∃j:I,i=ja jg j/\j<=3/\jm (aU wr (w.heap.size+1+1) 357 (pE kb a c j))/\jm (bR (w.heap.size+1+1) h wr)) (λi _=>(3-jC i).toNat)
 case atStart=>
  refine⟨0,T,by omega,?_,?_⟩
  ·exact aU.set (W:=wr) D _ _
  exact k.trans (bR.setCell _ _ _ _)
 obtain⟨j,rfl,S,f,k⟩:=hrel
 by_cases r:j<3
 ·have g:cJ wr (w.heap.size+1) 247 a:=(k.block _ Y).trans Q
  have k0:=g.cell (i:=4*j) Y;have n:=g.cell (i:=4*j+1) Y;have k2:=g.cell (i:=4*j+2) Y;have o:=g.cell (i:=4*j+3) Y;have F:=f.frozen (13+j);have C:=f.cell (i:=13+j) (by rw[Il];omega);have u:=O k0;have v:=O n;have y:=O k2;have z:=O o;clear k0 n k2 o g;have U:∀W,(Instr.sliceAt 247 (jG (A ⟨w.heap.size+1,0,jd⟩)) (A (ja jg (4*(j:N)))) jd jd).run ji W=.ok (jp (A ⟨w.heap.size+1,4*j,jd⟩) (12-4*j) (12-4*j)) W:=λW=>by
   have:=DY (P:=ji) 247 5 12 underlying247 iJ (w.heap.size+1) 0 (4*j) Y W
   simpa using this
  go_wp2_with fail
  refine(Em _ _ _ _ ?_ ?_ _ _ _ _ _ u.out v y z).mono ?_
  ·omega
  ·omega
  rintro e w' ⟨rfl,q,rfl⟩;have d:le4 (a.getD (4*j) 0) (a.getD (4*j+1) 0) (a.getD (4*j+2) 0) (a.getD (4*j+3) 0)=rz a (4*j):=T;rw[d];clear d;obtain⟨x,d⟩:=J (rz a (4*j));rw[<-d];have B:=O d;clear d
  go_wp2
  go_roundw
  case rel=>
   refine⟨j+1,by go_num,by omega,?_,?_⟩
   ·show aU _ _ _ (q9 _ _ _)
    rw[<-B];exact aU.set (W:=wr.drewN q) f _ _
   exact k.trans (bR.trans (b:=wr.drewN q) ⟨T,T,T,T,λ_ _=>rfl⟩ (bR.setCell _ _ _ _))
  case measure=>simp[jC];omega
 have d:j=3:=Y;have u:jm (aU wr (w.heap.size+1+1) 357 (pE kb a c 3)):=d▸f;clear f d;have g:wr.heap[w.heap.size+1+1]?=A (jj ((fx kb a c).map cB).toArray 357 (0,0)):=u.out;have n:((fx kb a c).map cB).toArray.size=16:=by rw[jW,j9,Bj]
 have o:((fx kb a c).map cB).toArray.all (·.oneCell')=jf:=by
  rw[qf];intro v d;obtain⟨x,_,rfl⟩:=qc.1 (ak d)
  rfl
 have x:jm (jn w w wr):=R.trans (k.below Y);generalize f:((fx kb a c).map cB).toArray=d at g n o;have y:=O f;clear f;have f:=O g;have q:=O n;have z:=O o;clear g n o
 go_upto_region 13 with fail
 refine ql ?_;refine qn T 357 _ T (w.heap.size+1+1) T 357 d (0,0) _ f.out qV T (by rw[q];rfl) ?_;refine qo T λ_ p=>r8 357 _ _ T (w.heap.size+1+1) d T T 357 d f.out (by rw[q];rfl) T z (p _ _ ?_)
 rw[rx f]
 go_wp2_with fail
 refine o8 (v:=jS d) ?_ T ?_
 ·exact r9 T _ _ _ 357 _ (0,0) _ T f qV T (by rw[q];rfl)
 exact⟨by rw[y],x⟩
def oA(v:je (jl 32)):I->je (jl 32)
 |0=>v
 |i+1=>qr (oA v i) i (4+i) (8+i) (12+i)
def ug(v:je (jl 32)):I->je (jl 32)
 |0=>v
 |i+1=>qr (ug v i) i (4+(i+1)%4) (8+(i+2)%4) (12+(i+3)%4)
def gu(v:je (jl 32)):I->je (jl 32)
 |0=>v
 |r+1=>ug (oA (gu v r) 4) 4
theorem w9(v i):(oA v i).length=v.length:=by induction i with
 |zero=>rfl
 |succ i a=>rw[oA,C5,a]
theorem DX(v i):(ug v i).length=v.length:=by induction i with
 |zero=>rfl
 |succ i a=>rw[ug,C5,a]
theorem Hn(v i):(gu v i).length=v.length:=by induction i with
 |zero=>rfl
 |succ i a=>rw[gu,DX,w9,a]
theorem Mt(g:I)(t:jq)(v:je (jl 32))(a:v.length=16)(i:I)(b:i<4)(w:jc)(h:aU w g t v):
 ju ji 264 #[jG (A ⟨g,0,jd⟩),ja jg i,ja jg (4+(i:N)),ja jg (8+(i:N)),ja jg (12+(i:N))] w λe w'=>
  e=js (jL #[])/\bR g w w'/\aU w' g t (qr v i (4+i) (8+i) (12+i)):=by
 have:=FZ g t v a i (4+i) (8+i) (12+i) Y Y Y Y w h
 simpa using this
theorem Qh(g:I)(t:jq)(v:je (jl 32))(a:v.length=16)(i:I)(b:i<4)(w:jc)(h:aU w g t v):
 ju ji 264 #[jG (A ⟨g,0,jd⟩),ja jg i,ja jg (4+((i:N)+1)%4),ja jg (8+((i:N)+2)%4),ja jg (12+((i:N)+3)%4)] w λe w'=>
  e=js (jL #[])/\bR g w w'/\aU w' g t (qr v i (4+(i+1)%4) (8+(i+2)%4) (12+(i+3)%4)):=by
 have:=FZ g t v a i (4+(i+1)%4) (8+(i+2)%4) (12+(i+3)%4) Y Y Y Y w h
 simpa using this
theorem tU:(ji.info? 5).map (λi=>(i.zero,i.size,i.bytes))=A (A (ja jF 0),1,1):=by kernel_rfl
theorem Km(w:jc)(l:je jh)(t:jq):∀j u,l[j]?=A u->(w.alloc (jj l.toArray t)).cell? ((⟨w,0,jd⟩:jP).add j)=A u:=by
 intro j u a;have b:(⟨w,0,jd⟩:jP).add j=⟨w,j,jd⟩:=by unfold Addr.add;split<;>simp_all
 rw[b];have c:=jO w (jj l.toArray t);simp only[j4,c]
 simpa using a
theorem aU.not_row{e:jq}(h:aU W B t u)(a:t≠e){base size k:I}{v:jh}{xs:je jh}(b:W.ownsRow base e size v k xs):A B≠v.ownBlock:=by
 rcases b.2 with⟨rfl,_⟩|⟨g,f,i,rfl,_,c,_⟩
 ·simp[xk]
 intro d;obtain rfl:B=g:=by simpa [xk]using d
 have:=(show W.heap[B]?=_ from h).symm.trans c;simp at this;exact a this.2
theorem aU.grown(h:aU W B t u){b:jE I}(c:W.grownBy a b)(d:A B≠b):aU a B t u:=(c.block B h.lt d).trans h
def tp(x:jl 32):LBy:=[x.setWidth 8,(x>>>8).setWidth 8,(x>>>16).setWidth 8,(x>>>24).setWidth 8]
def nA(v s:je (jl 32)):I->LBy
 |0=>[]
 |i+1=>nA v s i++tp (v.getD i 0+s.getD i 0)
def oX(kb a:LBy)(c:jl 32):LBy:=nA (gu (fx kb a c) 10) (fx kb a c) 16
theorem Gp(x:jl 32):(x.toNat:N)%256=((x.setWidth 8).toNat:N):=by rw[qQ];simp
theorem zd(x:jl 32)(n d:I)(a:d=2^n):(x.toNat:N)/(d:N)%256=(((x>>>n).setWidth 8).toNat:N):=by
 rw[Ad x n d a,Gp]
theorem size46:∀w,(sizeOf 223).run ji w=.ok 1 w:=λw=>by go_simp
theorem agg46:∀w,(isAgg 223).run ji w=.ok jz w:=λw=>by go_simp
theorem OE(V:je (jl 32))(c:V.length=16)(k:I)(b:k<16)(W:jc):
 (Instr.index 357 (jS (V.map cB).toArray) (ja jg (k:N))).run ji W=.ok (ja jr ((V.getD k 0).toNat:N)) W:=by
 have d:=qV;have e:(0:N)<=(k:N)/\(k:N)<((16:I):N):=Y;have a:V[k]?=A (V.getD k 0):=by simp[c,b,jU]
 unfold Instr.index;simp only[xS]at a⊢;generalize V[k]?.getD 0=x at a⊢;simp[asIntOf,xw d,part,a,b]
theorem Sl:(ji.info? 357).map (·.size)=A 16:=by kernel_rfl
theorem Hs(w:jc)(c a:jt jh)(d:c.size=16)(b:a.size=16)(e:a.all (·.oneCell')=jf):
 (storeCells ⟨w,0,jd⟩ a.toList 0).run ji (w.alloc (jj c 357))=.ok () (w.alloc (jj a 357)):=
 run_storeCells_new w _ c a (by rw[Sl,b]) (by rw[d,b]) e
theorem JK(kb b:LBy)(c:jl 32)(w:jc)(j:kb.length=32)(P:b.length=12)(d:sU w):
 ju ji 249 #[jS (kb.map v8).toArray,jS (b.map v8).toArray,ja jr c.toNat] w λe w'=>
  ∃v,e=js v/\w'.ownsRow w 5 1 v 64 ((oX kb b c).map v8)/\jn w w w':=by
 have a1:7<w.heap.size:=mf (d.cell sR 0 G);have f:(kb.map v8).toArray.size=32:=by simp[j]
 have g:(b.map v8).toArray.size=12:=by simp[P]
 have a:=λw h=>Rv kb b c w j P h
 generalize i:(kb.map v8).toArray=y at f a⊢;generalize k:(b.map v8).toArray=z at g a⊢;have U:=O i;have V:=O k;have E:=O a;have F:=O d;have H:=O f;have K:=O g;clear a d i k f g;obtain⟨Q,R,S,m,n⟩:=qd tU
 go_enter func249,ntmps249
 go_upto_region 1 with fail
 refine ql ?_;refine qn T 63 _ T w.heap.size T 63 y (0,0) _ ((jH _ _ _ ar).trans (jO w _)) underlying63 T (by rw[H];rfl) ?_;refine qn T 247 _ T (w.heap.size+1) T 247 z (0,0) _ (by have:=jO (w.alloc (jj y 63)) (jj z 247);simpa using this) underlying247 T (by rw[K];rfl) ?_
 go_wp2_with fail
 refine(E _ ?_).mono ?_
 ·exact(Lib.tabBelow_of_tabIs F) _ ⟨T,T,T,by simp;omega,λk j=>by rw[jH _ _ _ (by simp;omega),jH _ _ _ j]⟩
 rintro e a ⟨rfl,i⟩;have d:((fx kb b c).map cB).toArray.size=16:=by rw[jW,j9,Bj]
 have g:((fx kb b c).map cB).toArray.all (·.oneCell')=jf:=by
  rw[qf];intro v f;obtain⟨x,_,rfl⟩:=qc.1 (ak f)
  rfl
 generalize l:((fx kb b c).map cB).toArray=f at d g⊢;have p:=O l;have q:=O g;have r:=O i;clear l g i;have g:=Hs a #[jb jo 0,jb jo 0,jb jo 0,jb jo 0,jb jo 0,jb jo 0,jb jo 0,jb jo 0,jb jo 0,jb jo 0,jb jo 0,jb jo 0,jb jo 0,jb jo 0,jb jo 0,jb jo 0] f T d q
 go_upto_region 2 with fail
 clear g;refine ql ?_;refine qn T 357 _ T a.heap.size T 357 f (0,0) _ (jO a _) qV T (by rw[d];rfl) ?_;have g:=Hs (a.alloc (jj f 357)) #[jb jo 0,jb jo 0,jb jo 0,jb jo 0,jb jo 0,jb jo 0,jb jo 0,jb jo 0,jb jo 0,jb jo 0,jb jo 0,jb jo 0,jb jo 0,jb jo 0,jb jo 0,jb jo 0] f T d q;rw[j8]at g
 go_upto_region 4 with fail
 clear g;have i:aU ((a.alloc (jj f 357)).alloc (jj f 357)) (a.heap.size+1) 357 (gu (fx kb b c) 0):=by
  have:=jO (a.alloc (jj f 357)) (jj f 357);rw[j8]at this;show _ =A (Obj.cells ((fx kb b c).map cB).toArray 357 (0,0));rw[p];exact this
 have l:aU ((a.alloc (jj f 357)).alloc (jj f 357)) a.heap.size 357 (fx kb b c):=by
  show _ =A (Obj.cells ((fx kb b c).map cB).toArray 357 (0,0));rw[p,jH _ _ _ ar];exact jO a _
 have t:jn w w ((a.alloc (jj f 357)).alloc (jj f 357)):=by
  have g:jn w w ((w.alloc (jj y 63)).alloc (jj z 247)):=
   ⟨rfl,rfl,rfl,by simp;omega,λk j=>by rw[jH _ _ _ (by simp;omega),jH _ _ _ j]⟩
  have o:=g.trans (r.mono (by simp;omega));have v:=o.size;exact o.trans ⟨T,T,T,by simp;omega,λk j=>by rw[jH _ _ _ (by simp;omega),jH _ _ _ Y]⟩
 have aa:w.heap.size<=a.heap.size:=by have:=r.size;simp at this;omega
 obtain⟨s,B⟩:=J ((a.alloc (jj f 357)).alloc (jj f 357));rw[<-B]at i l t⊢;have ad:a.heap.size+2<=s.heap.size:=by rw[B];simp
 obtain⟨g,M⟩:=J a.heap.size;rw[<-M]at i l aa ad⊢;have C:=O i;have D:=O l;have u:=O t;clear i l t B d q r p F E U V H K M;clear a;have B:(fx kb b c).length=16:=Bj _ _ _;have E:jm (oX kb b c=nA (gu (fx kb b c) 10) (fx kb b c) 16):=O T;generalize fx kb b c=a at C D B E
 go_wp2_with fail
 go_loopw [21] (λt wr=>∃r:I,t=ja jg r/\r<=10/\jm (aU wr (g+1) 357 (gu a r))/\jm (bR (g+1) s wr)) (λt _=>(10-jC t).toNat)
 case atStart=>exact⟨0,T,by omega,C,bR.refl _ _⟩
 obtain⟨r,rfl,hr,F,l⟩:=hrel
 by_cases a2:r<10
 ·have ay:=aA ((r:N)<10)
  have U:=O (show(gu a r).length=16 by rw[Hn];exact B)
  go_wp2_with fail
  go_loopw [23] (λt d=>∃i:I,t=ja jg i/\i<=4/\jm (aU d (g+1) 357 (oA (gu a r) i))/\jm (bR (g+1) s d)) (λt _=>(4-jC t).toNat)
  case atStart=>exact⟨0,T,by omega,F,l⟩
  obtain⟨i,rfl,hi,d,V⟩:=hrel
  by_cases X:i<4
  ·go_wp2_with fail
   refine(Mt _ _ _ ?_ i X _ d.out).mono ?_
   ·rw[w9];exact U
   rintro e w' ⟨rfl,p,q⟩;have H:=O (V.trans p);have K:=O q;clear p q
   go_wp2
   go_roundw
   case rel=>exact⟨i+1,by go_num,by omega,K,H⟩
   case measure=>simp[jC];omega
  have a3:=az ((i:N)<4);have M:i=4:=Y;have au:jm (aU wr (g+1) 357 (oA (gu a r) 4)):=M▸d;clear d M
  go_wp2_with fail
  go_loopw [36] (λt M=>∃d:I,t=ja jg d/\d<=4/\jm (aU M (g+1) 357 (ug (oA (gu a r) 4) d))/\jm (bR (g+1) s M)) (λt _=>(4-jC t).toNat)
  case atStart=>exact⟨0,T,by omega,au,V⟩
  obtain⟨d,rfl,hd,M,W⟩:=hrel
  by_cases ax:d<4
  ·go_wp2_with fail
   refine(Qh _ _ _ ?_ d ax _ M.out).mono ?_
   ·rw[DX,w9];exact U
   rintro e w' ⟨rfl,p,q⟩;have H:=O (W.trans p);have K:=O q;clear p q
   go_wp2
   go_roundw
   case rel=>exact⟨d+1,by go_num,by omega,K,H⟩
   case measure=>simp[jC];omega
  have p:d=4:=Y;have q:jm (aU wr (g+1) 357 (gu a (r+1))):=by
   have h:=M;rw[p]at h;exact h
  clear M p
  go_wp2
  go_roundw
  case rel=>exact⟨r+1,by go_num,by omega,q,W⟩
  case measure=>simp[jC];omega
 have d:r=10:=Y;have H:jm (aU wr (g+1) 357 (gu a 10)):=d▸F;clear F d
 go_upto_region 17 with fail
 refine ql ?_;refine wpList_make_own wr T _ _ 66 T w.heap.size 5 Q (ja jF 0) 1 jR R S m .i64 .i64 64 64 T T T (by rw[n];decide) (by unfold jY;omega) ?_ ?_
 ·have:=l.size;have:=u.size;omega
 intro p au d;have K:aU p (g+1) 357 (gu a 10):=H.grown d ar;have M:aU p g 357 a:=aU.grown ((l.block _ Y).trans D) d ar;have U:jn w w p:=(u.trans (l.below Y)).grown d (by have:=l.size;have:=u.size;omega) ar;have q:(gu a 10).length=16:=by rw[Hn];exact B
 have F:=O K;have Wh:=O M;have UE:=O U;clear K M U H l D C u d;generalize gu a 10=V at F q E
 go_upto_region 18 with fail
 refine ql ?_;refine qn T 357 _ T (g+1) T 357 (V.map cB).toArray (0,0) _ F.out qV T (by rw[jW,j9,q];rfl) ?_;have d:∀(k:I) (j:k<16) (W:jc),(Instr.index 357 (jS (V.map cB).toArray) (ja jg (k:N))).run ji W=.ok (ja jr ((V.getD k 0).toNat:N)) W:=λk j W=>OE V q k j W
 generalize(V.map cB).toArray=a3 at d⊢;have H:=O d;clear d F
 go_wp2_with fail
 go_loopw [12,58] (λl t wr=>∃k:I,t=ja jg k/\k<=16/\wr.ownsRow w 5 1 l (4*k) ((nA V a k).map v8)/\jm (aU wr g 357 a)/\jm (jn w w wr)) (λ_ t _=>(16-jC t).toNat)
 case atStart=>exact⟨0,T,by omega,au,Wh,UE⟩
 obtain⟨k,rfl,a4,d,t,u⟩:=hrel
 by_cases ZW:k<16
 ·have F:=H k ZW
  have K:=t.cell (i:=k) Y;have l:nA V a (k+1)=nA V a k++tp (V.getD k 0+a.getD k 0):=T;generalize V.getD k 0=M at F l;generalize a.getD k 0=xs at K l;have C:=O l;clear l
  go_upto_region 22 with fail
  rw[ly M xs];generalize hx:M+xs=x at C⊢;have ax:(x.toNat:N)%256=_:=Gp x;have ay:(x.toNat:N)/256%256=_:=zd x 8 256 G;have UM:(x.toNat:N)/65536%256=_:=zd x 16 65536 G;have D:(x.toNat:N)/(16777216:N)=(((x>>>24).setWidth 8).toNat:N):=by
   have:=zd x 24 16777216 G;have l:=x.isLt;rw[<-this];omega
  generalize v:x.setWidth 8=l at ax;generalize m:(x>>>8).setWidth 8=y1 at ay;generalize n:(x>>>16).setWidth 8=y2 at UM;generalize U:(x>>>24).setWidth 8=y3 at D;have X:jm (tp x=[l,y1,y2,y3]):=O (by rw[tp,v,m,n,U]);clear hx v m n U F K;have K:=u.size;have F:(nA V a k++tp x).map v8=(nA V a k).map v8++[ja jF l.toNat,ja jF y1.toNat,ja jF y2.toNat,ja jF ((x.toNat:N)/(16777216:N))]:=by
   rw[X,D];simp[v8]
  clear D;rw[<-C]at F;have U:=O F;clear F C X
  go_wp2_with (at_builtin;refine sh _ T _ _ 66 T w.heap.size 5 Q (ja jF 0) 1 1 jR R S m n T G _ _ _ T (d.alloc _) ⟨wr,0,jd⟩ 4 4 [ja jF l.toNat,ja jF y1.toNat,ja jF y2.toNat,ja jF ((x.toNat:N)/(16777216:N))] T T (Km _ _ _) (by simp[rk]) (by unfold jY;omega) Y (by simp;omega) ?_;intro F X C D _)
  rw[<-U]at C;go_roundw
  case rel=>
   refine⟨k+1,by go_num,by omega,C,?_,?_⟩
   ·have o:aU (wr.alloc (jj #[ja jF l.toNat,ja jF y1.toNat,ja jF y2.toNat,ja jF ((x.toNat:N)/(16777216:N))] 5)) g 357 a:=(jH _ _ _ t.lt).trans t
    exact o.grown D (o.not_row G (d.alloc _))
   exact(u.alloc K _).grown D (by simp;omega) (λk e=>(d.lt k e).1)
  case measure=>simp[jC];omega
 have i:k=16:=Y;rw[i,<-E]at d;have l:=O d;clear d i H
 go_wp2
 go_ret;exact⟨_,T,l,u⟩
theorem sG{i:I}{r:I}{xs:je jh}(h:w.ownsRow B t i e r xs)(a:b<=B):w.ownsRow b t i e r xs:=by
 refine⟨h.1,?_⟩
 rcases h.2 with c|⟨g,d,f,size,j,k⟩
 ·exact .inl c
 exact .inr ⟨g,d,f,size,qb a j,k⟩
def bj(w:jc)(v:jh)(l:LBy):Prop:=
 ∃(p:jE jP) (c:I),v=jp p l.length c/\l.length<=c/\(p=jd->c=0)/\
  (0<l.length->∃g o,p=A ⟨g,o,jd⟩/\∀j,j<l.length->w.cell? ⟨g,o+j,jd⟩=A (ja jF (l.getD j 0).toNat))
theorem Ku(w:jc):
 ju ji 247 #[jp jd 0 0] w λe w'=>e=js (jp jd 0 0)/\w=w':=by
 have d:∀(w:jc) (a:jE jP) (n c n' b:I),(binOp .eql 66 (jp a n c) (jp jd n' b)).run ji w=.ok (.bool a.isNone) w:=λw a n c n' b=>Lib.run_eql_slice_nil w _ _ a n c n' b jR
 go_enter func247,ntmps247
 go_wp2
 go_ret;exact⟨T,T⟩
theorem TN(g o c:I)(l:LBy)(s:l.length<=1000000)(w:jc)(h:∀j,j<l.length->w.cell? ⟨g,o+j,jd⟩=A (ja jF (l.getD j 0).toNat)):
 ju ji 247 #[jp (A ⟨g,o,jd⟩) l.length c] w λe w'=>∃v,e=js v/\w'.ownsRow w 5 1 v l.length (l.map v8)/\jn w w w':=by
 have D:∀(w:jc) (a:jE jP) (n c n' d:I),(binOp .eql 66 (jp a n c) (jp jd n' d)).run ji w=.ok (.bool a.isNone) w:=λw a n c n' d=>Lib.run_eql_slice_nil w _ _ a n c n' d jR
 obtain⟨t,y,z,B,C⟩:=qd tU;have k:∀j u,(l.map v8)[j]?=A u->(w.alloc (jj #[] 5)).cell? ((⟨g,o,jd⟩:jP).add j)=A u:=by
  intro j u f;have b:j<l.length:=by
   have:=(o3.1 f).1
   simpa using this
  have m:(⟨g,o,jd⟩:jP).add j=⟨g,o+j,jd⟩:=by unfold Addr.add;split<;>simp_all
  rw[m];have i:u=ja jF (l.getD j 0).toNat:=by
   simp[b]at f;simp[<-f,v8,b,jU]
  rw[i];exact gh (h j b) (jH _ _ _ (mf (h j b)))
 have f:(w.alloc (jj #[] 5)).ownsRow w.heap.size 5 1 (jp (A ⟨w,0,jd⟩) 0 0) 0 []:=
  ⟨rfl,.inr ⟨w.heap.size,0,#[],rfl,jA _,jO w _,jA _,by unfold jY;omega,rfl,rfl⟩⟩
 have m:∀u∈l.map v8,u.oneCell'=jf:=by
  intro u i;obtain⟨x,_,rfl⟩:=qc.1 i
  rfl
 have i:=O k;have p:=O f;have q:=O m;have r:(l.map v8).length=l.length*1:=by simp
 have b:=O r;clear k f m r h;obtain⟨h,f⟩:=J (l.map v8);rw[<-f]at i q b⊢;clear f;generalize l.length=n at s b⊢
 go_enter func247,ntmps247
 go_wp2_with (at_builtin;refine sh _ T _ _ 66 T w.heap.size 5 t (ja jF 0) 1 1 jR y z B C T G _ _ _ T p ⟨g,o,jd⟩ n c h T b i q (by unfold jY;omega) Y ar ?_;intro f E m r _)
 go_ret;refine⟨f,T,by simpa using m,?_⟩;exact Below.grown (w:=w.alloc (jj #[] 5)) ⟨T,T,T,by simp,λk x=>jH _ _ _ x⟩ r ar (λk e=>(p.lt k e).1)
def rQ(l:LBy):je N:=l.map λb=>(b.toNat:N)
theorem SS(l):(rQ l).length=l.length:=by simp[rQ]
def Bu(l:LBy):ByteArray:=strOfNums (rQ l)
theorem Jw(h:bj w e d):(convert 66 9 e).run ji w=.ok (qG (Bu d)) w:=by
 obtain⟨p,c,rfl,j,k,l⟩:=h;refine Lib.BytesIn.convert (xs:=rQ d) ?_ (SS d) c _ 5 _ jR qT qB
 rcases qh d.length with a|a
 ·rw[a]
  exact Lib.BytesIn.nil _ _ _
 obtain⟨g,o,rfl,v⟩:=l a;refine Lib.BytesIn.of_cells λi b=>?_
 have f:(⟨g,o,jd⟩:jP).add i=⟨g,o+i,jd⟩:=by unfold Addr.add;split<;>simp_all
 rw[f,v i b];simp[rQ,b,jU]
theorem TV(n:I)(q:n<=1000000)(w:jc):
 ju ji 204 #[jp jd 0 0,ja jg n] w λe w'=>∃v,e=js v/\w'.ownsRow w 5 1 v 0 []/\jn w w w':=by
 rcases qh n with b|b
 ·subst b
  go_enter func204,ntmps204
  go_wp2
  go_ret;exact⟨_,T,xl _ _ _ _,jM _ _⟩
 obtain⟨i,f,g,j,h⟩:=qd tU;have a:=Lib.run_append_nil_zeros (P:=ji) w 66 3 66 5 i (ja jF 0) .i64 .i64 jR jN f g n b Y Y (by rw[h];omega);have l:=grownCap_ge w n 0 5;have c:=grownCap_le_maxLen w n 0 5 (by unfold jY;omega);generalize grownCap w n 0 5=C at a l c;have d:(Builtin.zeroCells (jb .u8 0).cells n++Builtin.zeroCells (jb .u8 0).cells (C-n)).size=C*1:=by
  simp[Builtin.zeroCells,Value.cells];omega
 generalize Builtin.zeroCells (jb .u8 0).cells n++Builtin.zeroCells (jb .u8 0).cells (C-n)=Z at a d;have m:=O a;have o:=O d;have p:=O c;clear a d c f g j h;have c:(0:N)<(n:N):=Y
 go_enter func204,ntmps204
 go_wp2_with (at_builtin;refine Lib.wpList_append_run _ T _ _ 66 3 T _ _ T T _ _ m.out ?_)
 go_ret;refine⟨_,T,⟨T,.inr ⟨w.heap.size,C,Z,T,jA _,jO w.drew _,qj _,p,o,T⟩⟩,?_⟩;exact⟨T,T,T,by simp,λk a=>jH w.drew _ _ a⟩
theorem ML(l:LBy):∀u∈l.map v8,u.oneCell'=jf:=by
 intro u a;obtain⟨x,_,rfl⟩:=qc.1 a
 rfl
theorem QK(g o j:I):(⟨g,o,jd⟩:jP).add j=⟨g,o+j,jd⟩:=by unfold Addr.add;split<;>simp_all
theorem DC{w:jc}{i:jt jy}{k:je jy}{o:jy}{a:Act}{m:jT->Act->jc->Prop}(q:o.guard=jd)(s x:nn)
 (r:o.op=.call {callee:=.builtin .append,args:=#[s,x],argTypes:=#[66,66]}) (base:I)
 (v:jh) (n:I) (xs:je jh) (t:a.eval s=v) (d:w.ownsRow base 5 1 v n xs) (u:jh) (l:LBy) (y:a.eval x=u) (C:bj w u l)
 (R:n+l.length<=100000000) (D:base<=w.heap.size)
 (h:∀b w',w'.ownsRow base 5 1 b (n+l.length) (xs++l.map v8)->w.grownBy w' v.ownBlock->oj ji i m k (a.put o.dst b) w'):oj ji i m (o::k) a w:=by
 obtain⟨z,B,E,F,H⟩:=qd tU;obtain⟨p,c,rfl,S,K,M⟩:=C
 rcases p with _|P
 ·have e:=K T
  subst e;have f:l=[]:=wv Y;subst f;exact wpList_append_own_none q s x 66 r base 5 z 1 jR B v n xs t d y (h v w (ak d) (q7.refl _ _))
 refine sh w q s x 66 r base 5 z (ja jF 0) 1 1 jR B E F H T G v n xs t d P l.length c (l.map v8) y ar ?_ (ML l) (by unfold jY;omega) Y D (λb w' e f _=>h b w' e f);intro j u b;have f:j<l.length:=by
  have:=(o3.1 b).1
  simpa using this
 obtain⟨g,o,e,Q⟩:=M Y;obtain rfl:=qN.inj e;rw[QK,Q j f];simp[f]at b;simp[<-b,v8,f,jU]
theorem bj.below{v:jh}{l:LBy}(h:bj w v l)(d:jn w w w'):bj w' v l:=by
 obtain⟨p,c,rfl,f,i,k⟩:=h;refine⟨p,c,T,f,i,λm=>?_⟩;obtain⟨g,o,e,a⟩:=k m;exact⟨g,o,e,λj b=>gh (a j b) (d.block _ (mf (a j b)))⟩
theorem bj.of_own{v:jh}{l:LBy}(h:w.ownsRow B 5 1 v l.length (l.map v8)):bj w v l:=by
 rcases h.2 with⟨rfl,c⟩|⟨g,d,f,rfl,n,i,k,o,p,m⟩
 ·exact⟨jd,0,by rw[c],by omega,λ_=>rfl,λa=>by omega⟩
 refine⟨A ⟨g,0,jd⟩,d,T,k,λe=>by simp at e,λ_=>⟨g,0,rfl,λj a=>?_⟩⟩;have b:(f.toList.take (l.length*1))[j]?=(l.map v8)[j]?:=by rw[m]
 simp only[j4,i];have q:j<l.length*1:=Y;simp[a]at b;simp[b,v8,jU,a]
def gd(a:je (LBy))(k:I):LBy:=(a.take k).flatten
theorem IH(a:je (LBy))(k:I)(b:k<a.length):gd a (k+1)=gd a k++a.getD k []:=by
 unfold gd;rw[List.take_add_one,xT];simp[b,jU]
theorem Bc(a:je (LBy))(k:I):(gd a k).length<=a.flatten.length:=by
 have h:a.flatten=gd a k++(a.drop k).flatten:=by
  unfold gd;rw[<-xT,List.take_append_drop]
 rw[h];simp
theorem uP(g m:I)(t:jq)(f:je jh)(a:je (LBy))(u:f.length=m)(x:a.length=m)(M:a.flatten.length<=1000000)(w:jc)
 (b:w.heap[g]?=A (jj f.toArray t (0,0))) (c:∀i,i<m->bj w (f.getD i jB) (a.getD i [])) (P:m<=1000):
 ju ji 148 #[jp (A ⟨g,0,jd⟩) m m] w λe w'=>∃v,e=js v/\w'.ownsRow w 5 1 v a.flatten.length (a.flatten.map v8)/\jn w w w':=by
 have y:g<w.heap.size:=(jQ.1 b).1;have o:jm (∀i,i<m->w.cell? ⟨g,i,jd⟩=A (f.getD i jB)):=O λi z=>by
  simp[j4,b,u,z,jU]
 have r:=O c;clear c b
 go_enter func148,ntmps148
 go_wp2_with fail
 go_loopw [3,11] (λs b wr=>∃k:I,b=ja jg k/\k<=m/\s=ja jg ((gd a k).length:I)/\wr=w) (λ_ b _=>(m-jC b).toNat)
 case atStart=>exact⟨0,T,by omega,rfl,rfl⟩
 obtain⟨k,rfl,Q,rfl,c⟩:=hrel;have B:=c.symm;subst B;clear c
 by_cases s:k<m
 ·have l:=o k s
  have C:=Bc a (k+1);have d:=IH a k Y;obtain⟨p,c,j,D,E,n⟩:=r k s;rw[j]at l;have h:(gd a (k+1)).length=(gd a k).length+(a.getD k []).length:=by rw[d];simp
  clear j n d;generalize(a.getD k []).length=n at l h D;have j:=O h;clear h;generalize(gd a k).length=q at j⊢;have F:¬((q:N)+(n:N)<0):=Y;have H:q+n<=1000000:=aI j
  go_wp2
  refine⟨⟨k+1,by go_num,by omega,?_,trivial⟩,by simp[jC];omega⟩;rw[j];simp
 have R:jm (k=m):=O Y;have C:=Bc a k
 go_wp2_with fail
 refine(TV _ Y _).mono ?_;rintro e S ⟨v,rfl,D,c⟩;have E:=O c;clear c
 go_wp2_with fail
 go_loopw [6,27] (λl b c=>∃j:I,b=ja jg j/\j<=m/\c.ownsRow w 5 1 l (gd a j).length ((gd a j).map v8)/\jm (jn w w c)) (λ_ b _=>(m-jC b).toNat)
 case atStart=>exact⟨0,T,by omega,by simpa [gd]using D,E⟩
 obtain⟨j,rfl,U,b,c⟩:=hrel
 by_cases n:j<m
 ·have F:=gh (o j n) (c.block _ y)
  have l:=(r j n).below c;have d:=IH a j Y;have p:=Bc a (j+1);generalize f.getD j jB=V at F l;generalize a.getD j []=q at d l;have W:=c.size;have h:(gd a j).length+q.length<=1000000:=by rw[d,xm]at p;omega
  have H:=O d;have K:=O l;clear d l p
  go_wp2_with (at_builtin;refine DC T _ _ T w.heap.size _ _ _ T b _ q T K Y Y ?_;intro p X d l)
  go_roundw
  case rel=>
   refine⟨j+1,by go_num,by omega,?_,c.grown l Y (λk e=>(b.lt k e).1)⟩;rw[H]
   simpa using d
  case measure=>simp[jC];omega
 have d:j=m:=Y;have h:gd a j=a.flatten:=by rw[d,<-x];simp[gd]
 rw[h]at b;have l:=O b;clear b d h
 go_wp2
 go_ret;exact⟨_,T,l,c⟩
section
variable{B f i:I}{d w:jc}{a xs:je jh}{b h:jh}{e t:jq}
structure cG(B:I)(e:jq)(sz:I)(w w':jc)(v a:jh)(n:I)(xs:je jh):Prop where
 own:w'.ownsRow B e sz a n xs
 grown:w.grownBy w' v.ownBlock
 lies:∀k,a.ownBlock=A k->v.ownBlock=A k\/w.heap.size<=k
theorem cG.trans{sz n n':I}{c:jc}{v f g:jh}{ys:je jh}(h:cG B e sz w c v f n xs)(k:cG B e sz c d f g n' ys):cG B e sz w d v g n' ys:=by
 refine⟨k.own,⟨k.grown.os.trans h.grown.os,k.grown.tape.trans h.grown.tape,k.grown.output.trans h.grown.output,qb h.grown.size k.grown.size,λj b i=>?_⟩,λj b=>?_⟩
 ·refine(k.grown.block j (qA b h.grown.size) (λe=>?_)).trans (h.grown.block j b i)
  rcases h.lies j e.symm with a|a
  ·exact i a.symm
  omega
 rcases k.lies j b with a|a
 ·exact h.lies j a
 exact .inr (qb h.grown.size a)
theorem cG.after{n:jc}(ys:jn w w d)(k:cG B e i d n b h f a):cG B e i w n b h f a:=by
 refine⟨k.own,⟨k.grown.os.trans ys.os,k.grown.tape.trans ys.tape,k.grown.output.trans ys.output,qb ys.size k.grown.size,λj v g=>?_⟩,λj v=>?_⟩
 ·exact(k.grown.block j (qA v ys.size) g).trans (ys.block j v)
 rcases k.lies j v with c|c
 ·exact .inl c
 exact .inr (qb ys.size c)
theorem cG.below{sz n:I}{w':jc}{v a:jh}{ys:je jh}{m:I}(h:cG B e sz w w' v a n xs)(b:w.ownsRow B e sz v m ys)(c:B<=w.heap.size):jn B w w':=
 ⟨h.grown.os,h.grown.tape,h.grown.output,h.grown.size,λk d=>h.grown.block k Y (λe=>by have:=(b.lt k e.symm).1;omega)⟩
theorem cG.old(v:cG B e i w d b h f a){g:I}{o:Obj}(xs:w.heap[g]?=A o)(c:b.ownBlock≠A g):d.heap[g]?=A o:=
 (v.grown.block g (jQ.1 xs).1 (λe=>c e.symm)).trans xs
theorem cG.ne(xs:cG B e i w d b h f a){g:I}(w':g<w.heap.size)(c:b.ownBlock≠A g):h.ownBlock≠A g:=λe=>by
 rcases xs.lies g e with v|v
 ·exact c v
 omega
theorem cG.drop(xs:cG B e i w d b h f a):cG B e i w d b h f a:=xs
theorem cG.refl{sz n:I}{v:jh}(h:w.ownsRow B e sz v n xs):cG B e sz w w v v n xs:=
 ⟨h,q7.refl _ _,λ_ h=>.inl h⟩
theorem eX(h:w.ownsRow B e i b f a){g:I}(xs:w.heap.size<=g\/g<B):b.ownBlock≠A g:=λe=>by
 have:=h.lt g e;omega
theorem cK(h:w.ownsRow B e i b f a)(c:jn w w d):d.ownsRow B e i b f a:=by
 refine⟨h.1,?_⟩
 rcases h.2 with xs|⟨g,w',n,sz,xs,v,j⟩
 ·exact .inl xs
 exact .inr ⟨g,w',n,sz,xs,(c.block g (jQ.1 v).1).trans v,j⟩
theorem cN(h:w.ownsRow B e i b f a):∃p c,b=jp p f c:=by
 rcases h.2 with⟨rfl,xs⟩|⟨g,v,d,rfl,-⟩
 ·exact⟨jd,0,by rw[xs]⟩
 exact⟨_,v,T⟩
section
variable {P:jI}
theorem oB(c:d.ownsRow B e i h f a)(w':w.grownBy d b.ownBlock)(n:h.ownBlock=b.ownBlock\/h.ownBlock=A w.heap.size):cG B e i w d b h f a:=by
 refine⟨c,w',λk v=>?_⟩
 rcases n with xs|xs
 ·exact .inl (xs▸v)
 rw[xs]at v;injection v with v
 exact .inr Y
theorem LI{w d:jc}{B:I}{u w':jq}{i:TypeInfo}(k:P.underlying e=A (.slice t))(l:P.underlying u=A .string)(m:P.info? t=A i)(p:i.zero=A (ja jF 0))
 (q:i.size=1) (r:i.bytes=1) {v f:jh} {n:I} {xs:je jh} (o:w.ownsRow B t 1 v n xs) {s:ByteArray} (H:n+s.size<=140737488355328)
 (a:(Builtin.append_ #[e,u] w' #[v,qG s]).run P w=.ok f d) (z:f=jp jd 0 0↔v=jp jd 0 0/\s.size=0):f.ownBlock=v.ownBlock\/f.ownBlock=A w.heap.size:=by
 have base:xs.length=n:=ak o.1
 rcases o.2 with⟨rfl,rfl⟩|⟨g,h,x,rfl,K,C,M,Q,D,R⟩
 ·by_cases j:s.size=0
  ·rw[z.2 ⟨T,j⟩];exact .inl T
  have b:=run_append_nil_string (P:=P) w e u w' t i (ja jF 0) k l m p s Y Y (by rw[r];omega);rw[b]at a;injection a with c y
  rw[<-c];exact .inr T
 by_cases E:n+s.size<=h
 ·have j:x.size=h:=ak D
  have b:=Lib.run_append_room_string (P:=P) w e u w' t i k l m q g n h x C s E Y;rw[b]at a;injection a with c y
  rw[<-c];exact .inl T
 have F:∀j u,xs[j]?=A u->w.cell? ((⟨g,0,jd⟩:jP).add j)=A u:=o.cells (g:=g) T;have b:=Lib.run_append_grow_string (P:=P) w e u w' t i (ja jF 0) k l m p ⟨g,0,jd⟩ n h xs (by rw[q];simpa using base) F s Y Y (by rw[r];exact growslice_fits Y Y);rw[b]at a;injection a with c y
 rw[<-c];exact .inr T
end
theorem lB(W:jc)(xs:je jh)(t:jq)(a:I×I)(sz n c:I)(b:xs.length=n*sz)(d:n<=c):cF (W.alloc (jj xs.toArray t a)) (jp (A ⟨W,0,jd⟩) n c) sz n xs:=by
 refine⟨b,A ⟨W,0,jd⟩,c,T,d,(λh=>by cases h),λ_=>⟨W.heap.size,0,T,λj u e=>?_⟩⟩;have f:=jO W (jj xs.toArray t a);unfold j4;simp only[f]
 simpa using e
theorem ao(W:jc)(o:Obj):jn W W (W.alloc o):=(jM _ W).alloc (jA _) _
structure pY(g:I)(w w':jc):Prop where
 os:w'.os=w.os
 tape:w'.tape=w.tape
 output:w'.output=w.output
 size:w'.heap.size=w.heap.size
 block:∀k,k≠g->w'.heap[k]?=w.heap[k]?
theorem pY.below{g:I}{w':jc}(h:pY g w w')(a:B<=g):jn B w w':=
 ⟨h.os,h.tape,h.output,qO h.size.symm,λk b=>h.block k Y⟩
theorem yO{P:jI}{W:jc}{g:I}{a:jt jh}{v:jh}(b:W.heap[g]?=A (jj a t (0,0)))(d:i<a.size)(e:v.oneCell'=jf):
 ∃c,(store ⟨g,i,jd⟩ v).run P W=.ok () c/\c.heap[g]?=A (jj (a.setIfInBounds i v) t (0,0))/\pY g W c:=by
 refine⟨W.setCell ⟨g,i,jd⟩ v,?_,heap_setCell_same W g i a t v b,⟨T,T,T,by simp[xj],λk f=>qe _ _ _ _ f⟩⟩;have h:W.cell? ⟨g,i,jd⟩=A a[i]:=by
  unfold j4;simp[b,d]
 rw[run_store _ _ _ v _ e,h];simp[frozen_of_row W g i a t b]
theorem kr{W:jc}{g:I}{a:jt jh}(v:jh)(b:W.heap[g]?=A (jj a t (0,0)))(c:i<a.size):
 (∃u,W.cell? ⟨g,i,jd⟩=A u)/\W.frozen? ⟨g,i,jd⟩=jz/\(W.setCell ⟨g,i,jd⟩ v).heap[g]?=A (jj (a.setIfInBounds i v) t (0,0))/\pY g W (W.setCell ⟨g,i,jd⟩ v):=by
 refine⟨⟨a[i],?_⟩,frozen_of_row W g i a t b,heap_setCell_same W g i a t v b,⟨T,T,T,by simp[xj],λk d=>qe _ _ _ _ d⟩⟩;unfold j4;simp[b,c]
theorem ai{W:jc}{g:I}{a:jt jh}{b:I×I}{v:jh}(c:W.heap[g]?=A (jj a t b))(d:a[i]?=A v):W.cell? ⟨g,i,jd⟩=A v:=by
 unfold j4;simp[c,d]
theorem Kv(s:ByteArray):Lib.strCells s=(s.data.toList.map UInt8.toBitVec).map v8:=by
 unfold Lib.strCells;rw[List.map_map]
 rfl
theorem im(l:LBy):∀u∈l.map v8,u.oneCell'=jf:=by
 intro u a;obtain⟨x,-,rfl⟩:=qc.1 a
 rfl
theorem bj.row{v:jh}{l:LBy}(h:bj w v l):cF w v 1 l.length (l.map v8):=by
 obtain⟨p,c,rfl,b,d,f⟩:=h;refine⟨by simp,p,c,T,b,d,λi=>?_⟩;obtain⟨g,o,e,k⟩:=f i;refine⟨g,o,e,λj u a=>?_⟩;rw[qM]at a
 cases hx:l[j]? with
 |none=>rw[hx]at a;cases a
 |some x=>
  rw[hx]at a;injection a with a
  have m:=(o3.1 hx).1;rw[k j m,<-a];simp[jU,hx]
theorem Dz:(ji.info? 5).map (λi=>(i.zero,i.size,i.bytes))=A (A (ja jF 0),1,1):=by kernel_rfl
theorem oS{w:jc}{o:jy}{a:Act}{K:Act->jc->Prop}{c:jT->Act->jc->Prop}(s x:nn)
 (d:o.op=.call {callee:=.builtin .append,args:=#[s,x],argTypes:=#[66,66]})
 (B:I) (v:jh) (n:I) (xs:je jh) (e:a.eval s=v) (f:w.ownsRow B 5 1 v n xs) (u:jh) (m:I) (ys:je jh) (g:a.eval x=u) (i:cF w u 1 m ys) (j:∀u∈ys,u.oneCell'=jf)
 (D:n+m<=4000000) (k:B<=w.heap.size) (h:∀b w',cG B 5 1 w w' v b (n+m) (xs++ys)->K (a.put o.dst b) w'):o.wp ji a w K c:=by
 obtain⟨l,p,q,r,t⟩:=qd Dz;exact m0 s x 66 d B 5 l (ja jF 0) 1 1 jR p q r t T G v n xs e f u m ys g i j (by unfold jY;omega) Y k
  λb w' y z C=>h b w' (oB y z C)
theorem Nw{w:jc}{o:jy}{a:Act}{K:Act->jc->Prop}{l:jT->Act->jc->Prop}(s x:nn)
 (m:o.op=.call {callee:=.builtin .append,args:=#[s,x],argTypes:=#[66,9]})
 (B:I) (v:jh) (n:I) (xs:je jh) (p:a.eval s=v) (d:w.ownsRow B 5 1 v n xs) (b:ByteArray) (q:a.eval x=qG b)
 (C:n+b.size<=4000000) (r:B<=w.heap.size) (h:∀c w',cG B 5 1 w w' v c (n+b.size) (xs++(b.data.toList.map UInt8.toBitVec).map v8)->K (a.put o.dst c) w'):o.wp ji a w K l:=by
 obtain⟨t,e,f,g,i⟩:=qd Dz;obtain⟨c,w',j,k,u,y⟩:=Lib.run_append_own_string (P:=ji) w B 66 9 o.type 5 t jR qB e f g i v n xs d b (by unfold jY;omega) Y r;have z:=LI jR qB e f g i d Y j y;rw[Kv]at k;unfold Oper.wp jV;simp only[m,resolve,invoke,builtin,Sem.run_bind,Sem.run_pure,Result.andThen_ok,wx,xa,xd,p,q,j];exact h c w' (oB k u z)
theorem bD(h:jm (w.ownsRow B e i b f a))(xs:jn w w d):jm (d.ownsRow B e i b f a):=O (cK h xs)
end
theorem Q5(x:jl 32)(w:jc):
 ju ji 246 #[ja jr x.toNat,ja jg 6,ja jg 11,ja jg 25] w λe w'=>
  e=js (ja jr (x.rotateRight 6^^^x.rotateRight 11^^^x.rotateRight 25).toNat)/\w=w':=by
 obtain⟨a,d⟩:=J (x.rotateRight 6);obtain⟨b,f⟩:=J (x.rotateRight 11);obtain⟨c,g⟩:=J (x.rotateRight 25);have h:=QM x;have i:=Qp x;have j:=TD x;rw[<-d]at h⊢;rw[<-f]at i⊢;rw[<-g]at j⊢;clear d f g
 go_enter func246,ntmps246
 go_wp2_with fail
 refine(h _).mono ?_;rintro e w' ⟨rfl,rfl⟩
 go_wp2_with fail
 refine(i _).mono ?_;rintro e w' ⟨rfl,rfl⟩
 go_wp2_with fail
 refine(j _).mono ?_;rintro e w' ⟨rfl,rfl⟩
 go_wp2
 go_ret;exact⟨fP (by rw[iG,iG]),T⟩
theorem Rz(x:jl 32)(w:jc):
 ju ji 246 #[ja jr x.toNat,ja jg 2,ja jg 13,ja jg 22] w λe w'=>
  e=js (ja jr (x.rotateRight 2^^^x.rotateRight 13^^^x.rotateRight 22).toNat)/\w=w':=by
 obtain⟨a,d⟩:=J (x.rotateRight 2);obtain⟨b,f⟩:=J (x.rotateRight 13);obtain⟨c,g⟩:=J (x.rotateRight 22);have h:=JA x;have i:=KS x;have j:=M6 x;rw[<-d]at h⊢;rw[<-f]at i⊢;rw[<-g]at j⊢;clear d f g
 go_enter func246,ntmps246
 go_wp2_with fail
 refine(h _).mono ?_;rintro e w' ⟨rfl,rfl⟩
 go_wp2_with fail
 refine(i _).mono ?_;rintro e w' ⟨rfl,rfl⟩
 go_wp2_with fail
 refine(j _).mono ?_;rintro e w' ⟨rfl,rfl⟩
 go_wp2
 go_ret;exact⟨fP (by rw[iG,iG]),T⟩
def oW(l:LBy):I->jl 32
 |0=>0
 |j+1=>oW l j<<<8|||(l.getD j 0).setWidth 32
theorem Sv(a:jl 32)(y:jl 8):bits .or .u32 ((a.toNat:N)*256%4294967296) (y.toNat:N)=((a<<<8|||y.setWidth 32).toNat:N):=by
 have b:((a.toNat:N)*(256:N)%(4294967296:N))=((a<<<8).toNat:N):=by
  rw[xh,q8];simp
 rw[b,EJ y,bor]
theorem Ub(g o c n:I)(i:4<=c)(l:LBy)(w:jc)(a:∀j,j<4->w.cell? ⟨g,o+j,jd⟩=A (ja jF (l.getD j 0).toNat)):
 ju ji 244 #[jp (A ⟨g,o,jd⟩) n c] w λe w'=>e=js (ja jr (oW l 4).toNat)/\w=w':=by
 replace a:=O a;have k:(4:N)<=(c:N):=Y;have p:c≠0:=Y;have q:(0==c)=jz:=by simp;omega
 go_enter func244,ntmps244
 go_wp2_with fail
 go_loopw [2,8] (λm t wr=>∃j:I,t=ja jg j/\j<=4/\m=ja jr (oW l j).toNat/\wr=w) (λ_ t _=>(4-jC t).toNat)
 case atStart=>exact⟨0,T,by omega,rfl,rfl⟩
 obtain⟨j,rfl,m,rfl,rfl⟩:=hrel
 by_cases d:j<4
 ·have f:=a j d
  have b:oW l (j+1)=oW l j<<<8|||(l.getD j 0).setWidth 32:=T;generalize l.getD j 0=y at f b;have h:=O b;clear b
  go_wp2
  refine⟨⟨j+1,by go_num,by omega,?_,trivial⟩,by simp[jC];omega⟩;rw[Sv,h]
 go_wp2
 go_ret;have:j=4:=Y;subst this;exact⟨T,T⟩
theorem cJ.frozen(h:cJ w B t d)(i:I):w.frozen? ⟨B,i,jd⟩=jz:=by
 simp[xR,show w.heap[B]?=_ from h]
theorem cJ.lt(h:cJ w B t d):B<w.heap.size:=(jQ.1 h).1
theorem cJ.set{g:I}{v:LBy}(h:cJ W g t v)(i:I)(x:jl 8):
 cJ (W.setCell ⟨g,i,jd⟩ (ja jF x.toNat)) g t (v.set i x):=by
 have a:=h.lt;have b:W.heap[g]=_:=(jQ.1 h).2;show(W.heap.modify g _)[g]?=_;rw[xi];simp[a,b,List.map_set]
def kM(a:LBy)(o n:I)(x:jl 64):I->LBy
 |0=>a
 |j+1=>(kM a o n x j).set (o+(n-1-j)) ((x>>>(8*j)).setWidth 8)
theorem AH(cur o n x j):(kM cur o n x j).length=cur.length:=by induction j with
 |zero=>rfl
 |succ j a=>simp[kM,a]
theorem TY(x:jl 64)(j:I):(x.toNat:N)/2^(8*j)%256=(((x>>>(8*j)).setWidth 8).toNat:N):=by
 rw[qQ,xf,xg];simp
theorem Di(g o c n:I)(t:jq)(k:n<=8)(b:LBy)(x:jl 64)(w:jc)(h:cJ w g t b)(l:o+n<=b.length)(m:n<=c):
 ju ji 203 #[jp (A ⟨g,o,jd⟩) n c,ja jk x.toNat] w λe w'=>e=js (jL #[])/\bR g w w'/\cJ w' g t (kM b o n x n):=by
 replace h:=O h
 go_enter func203,ntmps203
 go_wp2_with fail
 go_loopw [7] (λa wr=>∃j:I,a=ja jg j/\j<=n/\jm (cJ wr g t (kM b o n x j))/\jm (bR g w wr)) (λa _=>(n-jC a).toNat)
 case atStart=>exact⟨0,T,by omega,h,bR.refl _ _⟩
 obtain⟨j,rfl,p,a,d⟩:=hrel
 by_cases q:j<n
 ·have f:=a.cell (i:=o+(n-1-j)) (by rw[AH];omega)
  have r:=a.frozen (o+(n-1-j))
  go_wp2
  go_roundw
  case rel=>
   refine⟨j+1,by go_num,by omega,?_,d.trans (bR.setCell _ _ _ _)⟩;rw[TY];exact a.set _ _
  case measure=>simp[jC];omega
 have f:j=n:=Y;rw[f]at a
 go_wp2
 go_end0
 exact⟨T,d,a⟩
theorem J9:(ji.info? 5).map (λi=>(i.zero,i.size,i.bytes))=A (A (ja jF 0),1,1):=by kernel_rfl
def il(n:I):I->LBy
 |0=>[]
 |j+1=>il n j++[n0 8 (n/2^(56-8*j))]
theorem Dm(n j):(il n j).length=j:=by induction j with
 |zero=>rfl
 |succ j a=>simp[il,a]
theorem RN(n k:I):(n:N)/2^(56-8*k)%256=((n0 8 (n/2^(56-8*k))).toNat:N):=by
 rw[xe];simp
theorem No(n k:I):(il n (k+1)).map v8=(il n k).map v8++[ja jF ((n:N)/2^(56-8*k)%256)]:=by
 rw[RN,il,xU];rfl
theorem KP(n:I)(m:n<9223372036854775808)(w:jc):
 ju ji 250 #[ja jg n] w λe w'=>∃v,e=js v/\w'.ownsRow w 5 1 v 8 ((il n 8).map v8)/\jn w w w':=by
 obtain⟨c,d,f,g,h⟩:=qd J9
 go_enter func250,ntmps250
 go_wp2_with fail
 go_loopw [2,4] (λl t wr=>∃k:I,t=ja jg k/\k<=8/\wr.ownsRow w 5 1 l k ((il n k).map v8)/\jn w w wr) (λ_ t _=>(8-jC t).toNat)
 case atStart=>exact⟨0,T,by omega,xl _ _ _ _,jM _ _⟩
 obtain⟨k,rfl,o,b,a⟩:=hrel
 by_cases p:k<8
 ·have i:=a.size
  replace a:=O a
  go_wp2_with (at_builtin;refine sh _ T _ _ 66 T w.heap.size 5 c (ja jF 0) 1 1 jR d f g h T G _ _ _ T (b.alloc _) ⟨wr,0,jd⟩ 1 1 [ja jF ((n:N)/2^(56-8*k)%256)] T T (cell_one_new _ _ _) (by simp[rk]) (by unfold jY;omega) Y (by simp;omega) ?_;intro q r j l _)
  go_roundw
  case rel=>
   refine⟨k+1,by go_num,by omega,?_,?_⟩
   ·rw[No];exact j
   exact(a.alloc i _).grown l (by simp;omega) (λk e=>(b.lt k e).1)
  case measure=>simp[jC];omega
 have i:k=8:=Y;rw[i]at b;have j:=O b;replace a:=O a;clear b
 go_wp2
 go_ret;exact⟨_,T,j,a⟩
section
section
variable {P:jI} {ops:jt jy} {md:Region.Mode} {C:jc->Prop}
def tH(P:jI)(md:Region.Mode)(ops:jt jy)(C:jc->Prop)(n:I)(c:jt jw->Act->Prop):I->jt jw->Act->Prop
 |0,b,a=>c b a
 |f+1,b,a=>Region.ready md ops b≠[]/\∀i∈Region.ready md ops b,i<n/\qOp P ops C i (tH P md ops C n c f (b.setIfInBounds i jf)) a
theorem Q6{n g:I}{d:jt jw->Act->Prop}{Q':jT->Act->jc->Prop}(e:∀b a w,C w->d b a->wpAny P md ops Q' g b a w):
 ∀(f:I) (b:jt jw) (a:Act) (w:jc),C w->tH P md ops C n d f b a->wpAny P md ops Q' (f+g) b a w:=by
 intro f
 induction f with
 |zero=>
  intro b a w c h;rw[mz];exact e _ _ _ c h
 |succ f j=>
  intro b a w c h;rw[Nat.add_right_comm f 1 g];refine⟨λk=>qk k h.1,λi l=>?_⟩;exact wpOp_of_qOp c (λm w' o p=>j _ m w' o p) (h.2 i l).2
theorem TZ{n i:I}{p:jy}{v:jh}{u:jt jw->Act->Prop}(w:ops[i]?=A p)(y:∀(j:I) (o:jy) k b,ops[j]?=A o->o.op≠.select k b)
 (z:Region.sinkB md ops n=jf) (B:Region.chainB md ops n=jf) (D:n<ops.size) (E:i<n) (R:∀c a,u c a->∀j∈Region.ready md ops c,n<=j):
 ∀(f:I) (c:jt jw) (a:Act),HeadInv md ops n c->
  (∀j l,ops[j]?=A l->j≠i->c.getD j jf=jz->(∀e∈l.after,Region.binds md e=jf->e.on≠i)->p.apart ops l=jf)->
  i∈Region.ready md ops c->YieldsIn P ops C p v a->
  tH P md ops C n u f (c.setIfInBounds i jf) (a.put p.dst v)->tH P md ops C n u (f+1) c a:=by
 intro f
 induction f with
 |zero=>
  intro c a r _ g s H;have t:=(mem_ready.1 g).1;have o:∀j∈Region.ready md ops c,j<n:=λj d=>by
   rcases qI j n with h|h
   ·exact h
   exact qk d (tail_waits z B D r _ i T E t j h)
  refine⟨λh=>(by rw[h]at g;cases g),λj d=>⟨o j d,?_⟩⟩
  rcases Decidable.em (j=i)with rfl|m
  ·exact s.qOp w H
  have F:=R _ _ H j (ready_mono d m);have K:=o j d;omega
 |succ f S=>
  intro c a r M g s H;have t:=(mem_ready.1 g).1;have o:∀j∈Region.ready md ops c,j<n:=λj d=>by
   rcases qI j n with h|h
   ·exact h
   exact qk d (tail_waits z B D r _ i T E t j h)
  refine⟨λh=>(by rw[h]at g;cases g),λj d=>⟨o j d,?_⟩⟩
  rcases Decidable.em (j=i)with rfl|m
  ·exact s.qOp w H
  have F:=(H.2 j (ready_mono d m)).2;obtain⟨Q,l,x,U⟩:=mem_ready.1 d;have V:∀e∈l.after,Region.binds md e=jf->e.on≠i:=λe he W X=>by
   have q:=U e he W;rw[X,getD_both t]at q
   cases q
  have K:=qOp_put x (M j l x m Q V) (λk b=>y i p k b w) (λk b=>y j l k b x) s F;refine qOp_mono (λb q=>S (c.setIfInBounds j jf) b (r.set d (o j d)) (λk ok hk Wb aa ad=>M k ok hk Wb ?_ ad) (ready_mono g (Ne.symm m)) q.1 ?_) K
  ·rcases Decidable.em (j=k)with rfl|b
   ·exact Q
   rwa [getD_set_ne jf b]at aa
  rw[xG _ _ m];exact q.2
theorem QH{n g:I}{f:Act->Prop}(t:Region.noSelect ops=jf)(u:Region.sinkB md ops n=jf)(w:Region.chainB md ops n=jf)(x:n<ops.size):
 ∀(l:je jy) (k:I) (b:jt jw) (a:Act),(∀j,j<l.length->l[j]?=ops[k+j]?)->k+l.length=n->HeadInv md ops n b->
 Region.lexHead md ops g l.length k b=jf->wpQuiet P ops C f l a->
 tH P md ops C n (λi m=>Region.seqB md ops g n i=jf/\f m) l.length b a:=by
 intro l
 induction l with
 |nil=>
  intro k b a _ c _ d h;obtain rfl:k=n:=ak c;exact⟨by simpa [Region.lexHead]using d,h⟩
 |cons o l y=>
  intro k b a p c q d h;have e:ops[k]?=A o:=by simpa using(p 0 ar).symm
  simp only[o1,Region.lexHead,jZ]at d;obtain⟨⟨z,B⟩,D⟩:=d;have r:k<n:=by simp only[o1]at c;omega
  have s:k∈Region.ready md ops b:=ak z;have E:qOp P ops C k (wpQuiet P ops C f l) a:=by unfold qOp;simp only[e];exact h
  obtain⟨v,F,H⟩:=yieldsIn_of_qOp e E;refine TZ e (Region.noSelect_spec t) u w x r (λi m K=>seqB_ready K.1) l.length b a q (Region.free_spec e B) s F ?_;exact y (k+1) _ _ (λj i=>by have:=p (j+1) (by simp;omega);simpa [rn,Nat.add_comm 1 j]using this) (by simp only[o1]at c;omega) (q.set s r) D H
theorem TS{o:I}{b:jT->Act->jc->Prop}{a:Act}{w:jc}{l:je jy}(n:I)(p:P.follows .mixedOrders=jf)(e:Region.lexTailB .any l.toArray n=jf)
 (h:wpQuiet P l.toArray (λw'=>∃m,w'=w.drewN m) (λd=>∀w',(∃m,w'=w.drewN m)->oj P l.toArray b (l.drop n) d w') (l.take n) a):(Code.region o l.toArray jf).wp P b a w:=by
 simp only[Region.lexTailB,jZ,decide_eq_true_eq]at e;obtain⟨⟨⟨⟨q,f⟩,r⟩,s⟩,u⟩:=e;have z:n<l.length:=ak f;have c:(l.take n).length=n:=by simp;omega
 have i:(l.drop n).length=l.toArray.size-n:=by simp
 have v:HeadInv .any l.toArray n (qg l.toArray.size jz):=
  ⟨by simp,λj y _ k=>(by rw[getD_replicate_false]at k;cases k),λt _ x=>getD_in (ak x) (getD_replicate_false _ _)⟩
 have H:=QH (md:=.any) (g:=l.toArray.size-n) q r s f (l.take n) 0 _ a (λj k=>by
  have t:j<n:=by rw[c]at k;exact k
  simp[t]) (ak c) v (by rw[c];exact u) h
 refine wp_region_any p ?_;have t:∃m,({w with drawn:=w.drawn+1}:jc)=w.drewN m:=⟨1,T⟩;have:=Q6 (Q':=b) (g:=l.toArray.size-n) (λx d w' y k=>by
  have:=wpAny_of_seq (md:=.any) (Q':=b) (l.drop n) n x d w' (λj=>by simp[xB]) (by rw[i];exact k.1) (k.2 w' y)
  rwa [i]at this) _ _ _ _ t H
 rw[c,show n+(l.toArray.size-n)=l.toArray.size by omega]at this;exact this
end
end
def pC(b:LBy):I->je (jl 32)
 |0=>nv 64 0
 |t+1=>(pC b t).set t (oW (b.drop (4*t)) 4)
theorem Cf(b t):(pC b t).length=64:=by induction t with
 |zero=>simp[pC]
 |succ t a=>simp[pC,a]
def iH(x:jl 32)(k:N):jl 32:=x.rotateRight (-k).toNat
def BH(W:je (jl 32))(t:I):jl 32:=
 W.getD (t-16) 0+(iH (W.getD (t-15) 0) (-7)^^^iH (W.getD (t-15) 0) (-18)^^^(W.getD (t-15) 0)>>>3)+W.getD (t-7) 0+
  (iH (W.getD (t-2) 0) (-17)^^^iH (W.getD (t-2) 0) (-19)^^^(W.getD (t-2) 0)>>>10)
theorem Qx(W:je (jl 32))(t:I):BH W t=W.getD (t-16) 0+(iH (W.getD (t-15) 0) (-7)^^^iH (W.getD (t-15) 0) (-18)^^^(W.getD (t-15) 0)>>>3)+W.getD (t-7) 0+
 (iH (W.getD (t-2) 0) (-17)^^^iH (W.getD (t-2) 0) (-19)^^^(W.getD (t-2) 0)>>>10):=T
theorem Ja(x:jl 32)(k:N)(a:k= -7\/k= -18\/k= -17\/k= -19)(w:jc):
 ju ji 245 #[ja jr x.toNat,ja jg k] w λe w'=>e=js (ja jr (iH x k).toNat)/\w'=w:=by
 rcases a with rfl|rfl|rfl|rfl
 ·exact(QJ x w).mono λe w' h=>⟨h.1,h.2.symm⟩
 ·exact(O8 x w).mono λe w' h=>⟨h.1,h.2.symm⟩
 ·exact(Qa x w).mono λe w' h=>⟨h.1,h.2.symm⟩
 exact(QG x w).mono λe w' h=>⟨h.1,h.2.symm⟩
theorem F9(a b c d:jl 32):((a.toNat:N)+(b.toNat:N)+(c.toNat:N)+(d.toNat:N))%4294967296=((a+b+c+d).toNat:N):=by
 simp only[xP];omega
def yh(x:jl 32):jl 32:=x.rotateRight 6^^^x.rotateRight 11^^^x.rotateRight 25
def zV(x:jl 32):jl 32:=x.rotateRight 2^^^x.rotateRight 13^^^x.rotateRight 22
theorem P5(x:jl 32)(w:jc):
 ju ji 246 #[ja jr x.toNat,ja jg 6,ja jg 11,ja jg 25] w λe w'=>e=js (ja jr (yh x).toNat)/\w'=w:=
 (Q5 x w).mono λe w' h=>⟨h.1,h.2.symm⟩
theorem PO(x:jl 32)(w:jc):
 ju ji 246 #[ja jr x.toNat,ja jg 2,ja jg 13,ja jg 22] w λe w'=>e=js (ja jr (zV x).toNat)/\w'=w:=
 (Rz x w).mono λe w' h=>⟨h.1,h.2.symm⟩
def fC(b:LBy):I->je (jl 32)
 |0=>pC b 16
 |t+1=>(fC b t).set (16+t) (BH (fC b t) (16+t))
theorem ry(b t):(fC b t).length=64:=by induction t with
 |zero=>exact Cf b 16
 |succ t a=>simp[fC,a]
theorem yu(t e:jq)(a:P.underlying t=A (.slice e))(b:∀w,(sizeOf e).run P w=.ok 1 w)(g o n c l:I)(d:l<=n)(f:l<c)(W:jc):
 (Instr.sliceAt t (jp (A ⟨g,o,jd⟩) n c) (A (ja jg (l:N))) jd jd).run P W=.ok (jp (A ⟨g,o+l,jd⟩) (n-l) (c-l)) W:=by
 have he:P.elem t=e:=by simp[Program.elem,a]
 rw[xx W t _ _ _ _ (by rw[he];exact a),run_slice_l W t _ n c (by rw[he];exact a) .i64 _ Y Y,he];simp[b,Result.andThen,sliced,Addr.add];rw[j5 Y]
 split<;>simp[*]
def mg:je (jl 32):=[
 1116352408,1899447441,3049323471,3921009573,961987163,1508970993,2453635748,2870763221,
 3624381080,310598401,607225278,1426881987,1925078388,2162078206,2614888103,3248222580,
 3835390401,4022224774,264347078,604807628,770255983,1249150122,1555081692,1996064986,
 2554220882,2821834349,2952996808,3210313671,3336571891,3584528711,113926993,338241895,
 666307205,773529912,1294757372,1396182291,1695183700,1986661051,2177026350,2456956037,
 2730485921,2820302411,3259730800,3345764771,3516065817,3600352804,4094571909,275423344,
 430227734,506948616,659060556,883997877,958139571,1322822218,1537002063,1747873779,
 1955562222,2024104815,2227730452,2361852424,2428436474,2756734187,3204031479,3329325298]
def eP(w:jc):Prop:=Lib.TabIs ji w "chartroom/digest.numbers" .u32 (mg.map λx=>(x.toNat:N))
theorem QL:ji.globalNamed "chartroom/digest.numbers" =A 4:=by kernel_rfl
theorem eP.cell(h:eP w)(t:I)(a:t<64):w.cell? ⟨4,t,jd⟩=A (ja jr (mg.getD t 0).toNat):=by
 have:=Lib.TabIs.cell h QL t (by simpa [mg]using a);rw[this];have b:t<mg.length:=a;simp[b,jU]
def pR(v:je (jl 32))(k x:jl 32):jl 32:=
 v.getD 7 0+yh (v.getD 4 0)+(v.getD 6 0^^^(v.getD 4 0&&&(v.getD 5 0^^^v.getD 6 0)))+k+x
def qR(v:je (jl 32)):jl 32:=
 zV (v.getD 0 0)+((v.getD 0 0&&&v.getD 1 0)|||(v.getD 2 0&&&(v.getD 0 0|||v.getD 1 0)))
theorem RY(v:je (jl 32))(k x:jl 32):pR v k x=v.getD 7 0+yh (v.getD 4 0)+(v.getD 6 0^^^(v.getD 4 0&&&(v.getD 5 0^^^v.getD 6 0)))+k+x:=T
theorem QQ(v:je (jl 32)):qR v=zV (v.getD 0 0)+((v.getD 0 0&&&v.getD 1 0)|||(v.getD 2 0&&&(v.getD 0 0|||v.getD 1 0))):=T
def shR(v:je (jl 32)):je (jl 32):=splice v 1 (v.take 7)
def sA(v:je (jl 32))(k x:jl 32):je (jl 32):=
 ((shR v).set 4 ((shR v).getD 4 0+pR v k x)).set 0 (pR v k x+qR v)
theorem IV(v)(h:v.length=8):(shR v).length=8:=by simp[shR,splice,h]
theorem PW(v k x)(h:v.length=8):(sA v k x).length=8:=by simp[sA,IV v h]
def kI(s W:je (jl 32)):I->je (jl 32)
 |0=>s
 |t+1=>sA (kI s W t) (mg.getD t 0) (W.getD t 0)
theorem GJ(s W t)(h:s.length=8):(kI s W t).length=8:=by induction t with
 |zero=>exact h
 |succ t a=>exact PW _ _ _ a
def kt(s v:je (jl 32)):I->je (jl 32)
 |0=>s
 |i+1=>(kt s v i).set i ((kt s v i).getD i 0+v.getD i 0)
theorem Et(s v i):(kt s v i).length=s.length:=by induction i with
 |zero=>rfl
 |succ i a=>simp[kt,a]
def pi(s:je (jl 32))(b:LBy):je (jl 32):=kt s (kI s (fC b 48) 64) 8
theorem K5(s b)(h:s.length=8):(pi s b).length=8:=by rw[pi,Et,h]
theorem EA(g o j:I):(⟨g,o,jd⟩:jP).add j=⟨g,o+j,jd⟩:=by unfold Addr.add;split<;>simp_all
theorem QP(l:je (jl 32)):∀u∈l.map cB,u.oneCell'=jf:=by
 intro u a;obtain⟨x,_,rfl⟩:=qc.1 a
 rfl
theorem R9(g gb o n c:I)(s:je (jl 32))(b:LBy)(hs:s.length=8)(hb:b.length=64)(hn:64<=n)(hc:n<=c)(w:jc)
 (a:aU w g 296 s) (d:∀j,j<64->w.cell? ⟨gb,o+j,jd⟩=A (ja jF (b.getD j 0).toNat)) (f:eP w):
 ju ji 202 #[jG (A ⟨g,0,jd⟩),jp (A ⟨gb,o,jd⟩) n c] w λe w'=>
  e=js (jL #[])/\aU w' g 296 (pi s b)/\(∀k,k<w.heap.size->k≠g->w'.heap[k]?=w.heap[k]?)/\jn 0 w w':=by
 have bp:gb<w.heap.size:=mf (d 0 Y);have bq:g<w.heap.size:=a.lt;have br:4<w.heap.size:=mf (f.cell 0 G);have HT:jm (∀t,t<64->w.cell? ⟨4,t,jd⟩=A (ja jr (mg.getD t 0).toNat)):=O λt ht=>f.cell t ht
 have HG:=O a;have HC:=O d;clear a d f
 go_enter func202,ntmps202
 go_upto_region 1 with fail
 have a:aU (w.alloc (jj #[jb .u32 0,jb .u32 0,jb .u32 0,jb .u32 0,jb .u32 0,jb .u32 0,jb .u32 0,jb .u32 0,jb .u32 0,jb .u32 0,jb .u32 0,jb .u32 0,jb .u32 0,jb .u32 0,jb .u32 0,jb .u32 0,jb .u32 0,jb .u32 0,jb .u32 0,jb .u32 0,jb .u32 0,jb .u32 0,jb .u32 0,jb .u32 0,jb .u32 0,jb .u32 0,jb .u32 0,jb .u32 0,jb .u32 0,jb .u32 0,jb .u32 0,jb .u32 0,jb .u32 0,jb .u32 0,jb .u32 0,jb .u32 0,jb .u32 0,jb .u32 0,jb .u32 0,jb .u32 0,jb .u32 0,jb .u32 0,jb .u32 0,jb .u32 0,jb .u32 0,jb .u32 0,jb .u32 0,jb .u32 0,jb .u32 0,jb .u32 0,jb .u32 0,jb .u32 0,jb .u32 0,jb .u32 0,jb .u32 0,jb .u32 0,jb .u32 0,jb .u32 0,jb .u32 0,jb .u32 0,jb .u32 0,jb .u32 0,jb .u32 0,jb .u32 0] 338)) w.heap.size 338 (pC b 0):=by
  have:=jO w (jj #[jb .u32 0,jb .u32 0,jb .u32 0,jb .u32 0,jb .u32 0,jb .u32 0,jb .u32 0,jb .u32 0,jb .u32 0,jb .u32 0,jb .u32 0,jb .u32 0,jb .u32 0,jb .u32 0,jb .u32 0,jb .u32 0,jb .u32 0,jb .u32 0,jb .u32 0,jb .u32 0,jb .u32 0,jb .u32 0,jb .u32 0,jb .u32 0,jb .u32 0,jb .u32 0,jb .u32 0,jb .u32 0,jb .u32 0,jb .u32 0,jb .u32 0,jb .u32 0,jb .u32 0,jb .u32 0,jb .u32 0,jb .u32 0,jb .u32 0,jb .u32 0,jb .u32 0,jb .u32 0,jb .u32 0,jb .u32 0,jb .u32 0,jb .u32 0,jb .u32 0,jb .u32 0,jb .u32 0,jb .u32 0,jb .u32 0,jb .u32 0,jb .u32 0,jb .u32 0,jb .u32 0,jb .u32 0,jb .u32 0,jb .u32 0,jb .u32 0,jb .u32 0,jb .u32 0,jb .u32 0,jb .u32 0,jb .u32 0,jb .u32 0,jb .u32 0] 338);exact this
 have d:jn w w (w.alloc (jj #[jb .u32 0,jb .u32 0,jb .u32 0,jb .u32 0,jb .u32 0,jb .u32 0,jb .u32 0,jb .u32 0,jb .u32 0,jb .u32 0,jb .u32 0,jb .u32 0,jb .u32 0,jb .u32 0,jb .u32 0,jb .u32 0,jb .u32 0,jb .u32 0,jb .u32 0,jb .u32 0,jb .u32 0,jb .u32 0,jb .u32 0,jb .u32 0,jb .u32 0,jb .u32 0,jb .u32 0,jb .u32 0,jb .u32 0,jb .u32 0,jb .u32 0,jb .u32 0,jb .u32 0,jb .u32 0,jb .u32 0,jb .u32 0,jb .u32 0,jb .u32 0,jb .u32 0,jb .u32 0,jb .u32 0,jb .u32 0,jb .u32 0,jb .u32 0,jb .u32 0,jb .u32 0,jb .u32 0,jb .u32 0,jb .u32 0,jb .u32 0,jb .u32 0,jb .u32 0,jb .u32 0,jb .u32 0,jb .u32 0,jb .u32 0,jb .u32 0,jb .u32 0,jb .u32 0,jb .u32 0,jb .u32 0,jb .u32 0,jb .u32 0,jb .u32 0] 338)):=⟨T,T,T,by simp,λk hk=>jH _ _ _ hk⟩;obtain⟨S,f⟩:=J (w.alloc (jj #[jb .u32 0,jb .u32 0,jb .u32 0,jb .u32 0,jb .u32 0,jb .u32 0,jb .u32 0,jb .u32 0,jb .u32 0,jb .u32 0,jb .u32 0,jb .u32 0,jb .u32 0,jb .u32 0,jb .u32 0,jb .u32 0,jb .u32 0,jb .u32 0,jb .u32 0,jb .u32 0,jb .u32 0,jb .u32 0,jb .u32 0,jb .u32 0,jb .u32 0,jb .u32 0,jb .u32 0,jb .u32 0,jb .u32 0,jb .u32 0,jb .u32 0,jb .u32 0,jb .u32 0,jb .u32 0,jb .u32 0,jb .u32 0,jb .u32 0,jb .u32 0,jb .u32 0,jb .u32 0,jb .u32 0,jb .u32 0,jb .u32 0,jb .u32 0,jb .u32 0,jb .u32 0,jb .u32 0,jb .u32 0,jb .u32 0,jb .u32 0,jb .u32 0,jb .u32 0,jb .u32 0,jb .u32 0,jb .u32 0,jb .u32 0,jb .u32 0,jb .u32 0,jb .u32 0,jb .u32 0,jb .u32 0,jb .u32 0,jb .u32 0,jb .u32 0] 338));rw[<-f]at a d⊢;have h:S.heap.size=w.heap.size+1:=by rw[f];simp
 have bs:=O h;have HA:=O a;have HB:=O d;clear a d f h
 go_wp2_with fail
 go_loopw [14] (λa wr=>∃t:I,a=ja jg t/\t<=16/\jm (aU wr w.heap.size 338 (pC b t))/\jm (bR w.heap.size S wr)) (λa _=>(16-jC a).toNat)
 case atStart=>exact⟨0,T,by omega,HA,bR.refl _ _⟩
 obtain⟨t,rfl,ht,d,ax⟩:=hrel
 by_cases bC:t<16
 ·have f:∀j,j<4->wr.cell? ⟨gb,(o+4*t)+j,jd⟩=A (ja jF ((b.drop (4*t)).getD j 0).toNat):=λj U=>by
   have h1:=HC (4*t+j) Y;have h2:(b.drop (4*t)).getD j 0=b.getD (4*t+j) 0:=by simp[jU]
   rw[h2,rn];exact gh h1 ((ax.block _ (by show gb≠_;omega)).trans (HB.block _ bp))
  have h:=O f;have F:=d.frozen t;have C:=d.cell (i:=t) (by rw[Cf];omega);have l:∀W,(Instr.sliceAt 66 (jp (A ⟨gb,o,jd⟩) n c) (A (ja jg (4*(t:N)))) jd jd).run ji W=.ok (jp (A ⟨gb,o+4*t,jd⟩) (n-4*t) (c-4*t)) W:=λW=>by
   have:=yu (P:=ji) 66 5 jR iJ gb o n c (4*t) Y Y W
   simpa using this
  clear f
  go_wp2_with fail
  refine(Ub gb (o+4*t) (c-4*t) (n-4*t) Y (b.drop (4*t)) _ h.out).mono ?_;rintro e w' ⟨rfl,rfl⟩;obtain⟨x,f⟩:=J (oW (b.drop (4*t)) 4);rw[<-f];have m:=O f;clear f
  go_wp2
  go_roundw
  case rel=>
   refine⟨t+1,by go_num,by omega,?_,ax.trans (bR.setCell _ _ _ _)⟩;show aU _ _ _ (q9 _ _ _);rw[<-m];exact d.set _ _
  case measure=>simp[jC];omega
 have f:t=16:=Y;have bu:jm (aU wr w.heap.size 338 (fC b 0)):=by
  have h:=d;rw[f]at h;exact h
 clear d f;have bI:=az ((t:N)<16)
 go_wp2_with fail
 go_loopw [6] (λa wr=>∃q:I,a=ja jg q/\16<=q/\q<=64/\jm (aU wr w.heap.size 338 (fC b (q-16)))/\jm (bR w.heap.size S wr)) (λa _=>(64-jC a).toNat)
 case atStart=>exact⟨16,T,by omega,by omega,bu,ax⟩
 obtain⟨q,rfl,bK,bM,f,m⟩:=hrel
 by_cases bN:q<64
 ·have bv:=aA ((q:N)<64)
  have u:=f.cell (i:=q-15) (by rw[ry];omega);have v:=f.cell (i:=q-2) (by rw[ry];omega);have d:=Qx (fC b (q-16)) q;generalize(fC b (q-16)).getD (q-15) 0=x at u d;generalize(fC b (q-16)).getD (q-2) 0=y at v d;have r:=O d;clear d
  go_upto_region 9 with fail
  go_quiet (fail)
  go_upto_region 10 with fail
  have p:jm (aU (wr.drewN nq) w.heap.size 338 (fC b (q-16))):=f;have B:jm (bR w.heap.size S (wr.drewN nq)):=m.trans ⟨T,T,T,T,λ_ _=>rfl⟩;obtain⟨C,z⟩:=J (wr.drewN nq);rw[<-z]at p B⊢;clear z u v f m;have d:=r.out;clear r;have v:=p.cell (i:=q-16) (by rw[ry];omega);have D:=p.cell (i:=q-7) (by rw[ry];omega);have E:=p.cell (i:=q) (by rw[ry];omega);have F:=p.frozen q;generalize(fC b (q-16)).getD (q-16) 0=z at v d;generalize(fC b (q-16)).getD (q-7) 0=u at D d;generalize(fC b (q-16)).getD q 0=R at E;have r:=O d;clear d;refine TS 29 af af ?_;simp only[List.take_succ_cons,List.take_zero,List.drop_succ_cons,List.drop_zero]
  repeat (go_big_quiet_step (exact Calls.quiet_of_same (Ja _ _ G _)))
  refine wpQuiet_nil ?_;rintro _ ⟨d,rfl⟩
  go_wp2
  go_roundw
  case rel=>
   refine⟨q+1,by go_num,by omega,by omega,?_,B.trans (bR.trans (b:=C.drewN d) ⟨rfl,rfl,rfl,rfl,λ_ _=>rfl⟩ (bR.setCell _ _ _ _))⟩;have H:q+1-16=(q-16)+1:=Y;have K:16+(q-16)=q:=Y;rw[H];show aU _ _ _ (q9 _ (16+(q-16)) (BH _ (16+(q-16))));rw[K];rw[r];have h:=aU.set (W:=C.drewN d) p q (z+(iH x (-7)^^^iH x (-18)^^^x>>>3)+u+(iH y (-17)^^^iH y (-19)^^^y>>>10));have M:((x.toNat:N)/(8:N))=((x>>>3).toNat:N):=Ad x 3 8 G;have Q:((y.toNat:N)/(1024:N))=((y>>>10).toNat:N):=Ad y 10 1024 G;rw[M,Q,iG,iG,iG,iG,F9];exact h
  case measure=>simp[jC];omega
 have d:q=64:=Y;have z:jm (aU wr w.heap.size 338 (fC b 48)):=by
  have h:=f;rw[d]at h;exact h
 have bv:=az ((q:N)<64);clear f d;have d:jm (aU wr g 296 s):=(m.block _ (by show g≠_;omega)).trans ((HB.block _ bq).trans HG);have l:s=[s.getD 0 0,s.getD 1 0,s.getD 2 0,s.getD 3 0,s.getD 4 0,s.getD 5 0,s.getD 6 0,s.getD 7 0]:=by
  match s,hs with
  |[a0,a1,a2,a3,a4,a5,a6,a7],_=>rfl
 have p:=d.cell (i:=0) Y;have r:=d.cell (i:=1) Y;have v:=d.cell (i:=2) Y;have B:=d.cell (i:=3) Y;have C:=d.cell (i:=4) Y;have E:=d.cell (i:=5) Y;have H:=d.cell (i:=6) Y;have K:=d.cell (i:=7) Y;generalize s.getD 0 0=s0 at p l;generalize s.getD 1 0=s1 at r l;generalize s.getD 2 0=s2 at v l;generalize s.getD 3 0=s3 at B l;generalize s.getD 4 0=s4 at C l;generalize s.getD 5 0=s5 at E l;generalize s.getD 6 0=s6 at H l;generalize s.getD 7 0=s7 at K l;have D:=O l;clear l
 go_upto_region 12 with fail
 obtain⟨u,h⟩:=J (#[jb jo s0.toNat,jb jo s1.toNat,jb jo s2.toNat,jb jo s3.toNat,jb jo s4.toNat,jb jo s5.toNat,jb jo s6.toNat,jb jo s7.toNat]);rw[<-h];have f:(s.map cB).toArray=u:=by rw[D,h];rfl
 have X:=O f;clear f h D p r v B C E H K;have B:wr.heap.size=w.heap.size+1:=m.size.trans bs;have C:jn w w wr:=HB.trans (m.below (jA _));have h:aU (wr.alloc (jj u 296)) wr.heap.size 296 (kI s (fC b 48) 0):=by
  have:=jO wr (jj u 296);show _ =A (Obj.cells (s.map cB).toArray 296 (0,0));rw[X];exact this
 have p:aU (wr.alloc (jj u 296)) w.heap.size 338 (fC b 48):=(jH _ _ _ Y).trans z;have r:aU (wr.alloc (jj u 296)) g 296 s:=(jH _ _ _ Y).trans d;have v:jn w w (wr.alloc (jj u 296)):=C.alloc Y _;obtain⟨E,K⟩:=J (wr.alloc (jj u 296));rw[<-K]at h p r v⊢;obtain⟨H,M⟩:=J wr.heap.size;rw[<-M]at h B⊢;have bw:w.heap.size<H:=Y;have bd:=O h;have bf:=O p;have bA:=O r;have UC:=O v;clear h p r v K M B C X d z m;have bg:=O (ry b 48);have d:pi s b=kt s (kI s (fC b 48) 64) 8:=T;have ay:=O d;clear d;generalize fC b 48=m at bd bf bg ay
 go_wp2_with fail
 go_loopw [69] (λa K=>∃r:I,a=ja jg r/\r<=64/\jm (aU K H 296 (kI s m r))/\jm (jn H E K)) (λa _=>(64-jC a).toNat)
 case atStart=>exact⟨0,T,by omega,bd,jM _ _⟩
 obtain⟨r,rfl,hr,h,z⟩:=hrel
 by_cases bh:r<64
 ·have bB:=aA ((r:N)<64)
  have aa:jm (kI s m (r+1)=sA (kI s m r) (mg.getD r 0) (m.getD r 0)):=O T;have d:=O (GJ s m r hs);generalize kI s m r=V at h aa d;have C:wr.cell? ⟨w,r,jd⟩=A (ja jr (m.getD r 0).toNat):=gh (bf.cell (by rw[bg];exact bh)) (z.block _ bw);have ad:wr.cell? ⟨4,r,jd⟩=A (ja jr (mg.getD r 0).toNat):=
   gh (gh (HT r bh) (UC.block _ br)) (z.block _ (by show 4<H;omega))
  generalize mg.getD r 0=M at ad aa;generalize m.getD r 0=Q at C aa;have Zz:=O ad;have au:=O C;have B:=h.cell (i:=0) (by rw[d];decide);have c1:=h.cell (i:=1) (by rw[d];decide);have c2:=h.cell (i:=2) (by rw[d];decide);have R:=h.cell (i:=4) (by rw[d];decide);have c5:=h.cell (i:=5) (by rw[d];decide);have c6:=h.cell (i:=6) (by rw[d];decide);have c7:=h.cell (i:=7) (by rw[d];decide);have p:=RY V M Q;have f:=QQ V;generalize V.getD 0 0=v0 at B p f;generalize V.getD 1 0=v1 at c1 p f;generalize V.getD 2 0=v2 at c2 p f;generalize V.getD 4 0=v4 at R p f;generalize V.getD 5 0=v5 at c5 p f;generalize V.getD 6 0=v6 at c6 p f;generalize V.getD 7 0=v7 at c7 p f;have HP:=O p;have X:=O f;clear p f
  go_upto_region 15 with fail
  go_quiet (exact Calls.quiet_of_same (P5 _ _))
  simp only[iG,EL,F9,ly];rw[<-HP];have ba:jm (aU (wr.drewN nq) H 296 V):=h;have bb:jm (jn H E (wr.drewN nq)):=z.trans ⟨T,T,T,jA _,λ_ _=>rfl⟩;obtain⟨p,v⟩:=J (wr.drewN nq);rw[<-v]at ba bb⊢;have B:p.cell? ⟨H,0,jd⟩=A (ja jr v0.toNat):=by rw[v];exact B
  have c1:p.cell? ⟨H,1,jd⟩=A (ja jr v1.toNat):=by rw[v];exact c1
  have c2:p.cell? ⟨H,2,jd⟩=A (ja jr v2.toNat):=by rw[v];exact c2
  clear v h z R c5 c6 c7 Zz au ad C
  go_upto_region 16 with fail
  go_quiet (exact Calls.quiet_of_same (PO _ _))
  simp only[bor,EL,ly];rw[<-X];have ad:jm (aU (p.drewN nq) H 296 V):=ba;have bc:jm (jn H E (p.drewN nq)):=bb.trans ⟨T,T,T,jA _,λ_ _=>rfl⟩;obtain⟨au,v⟩:=J (p.drewN nq);rw[<-v]at ad bc⊢;clear v ba bb B c1 c2
  go_upto_region 17 with fail
  have ba:au.drew.heap[H]?=A (jj (V.map cB).toArray 296 (0,0)):=ad.out;have bb:∀(j:I) (v:jh),((V.take 7).map cB)[j]?=A v->au.drew.cell? ((⟨H,0,jd⟩:jP).add j)=A v:=by
   intro j v U;have bi:j<7:=by
    have:=(o3.1 U).1;simp at this;omega
   have C:j<V.length:=by rw[d];omega
   rw[EA,mz,aU.cell (W:=au.drew) ad C];simp[bi,C]at U;simp[<-U,cB,C,jU]
  have U:jm (jn H E au.drew):=bc.trans ⟨T,T,T,jA _,λ_ _=>rfl⟩;have bi:=O ba;have bk:=O bb;have C:((V.take 7).map cB).length=7:=by simp[d.out]
  have bl:=O C;have bm:1+((V.take 7).map cB).length<=(V.map cB).length:=by rw[C];simp[d.out]
  have bn:=O bm;have bo:=O (QP (V.take 7));clear ba bb C bm
  go_region_law (refine step_copy_splice T (.tmp 116) (.tmp 117) 342 342 T 223 underlying342 T (A ⟨H,1,jd⟩) (A ⟨H,0,jd⟩) 7 7 7 8 (by simp[Act.eval,Act.put]) (by simp[Act.eval,Act.put]) H 1 (V.map cB) 296 bi ((V.take 7).map cB) (by rw[bl];rfl) (λ_=>⟨T,_,T,bk⟩) bn bo H E U (jA _) ?_;intro w4 ba bb)
  have C:aU w4 H 296 (shR V):=by
   have e:splice (V.map cB) 1 ((V.take 7).map cB)=(shR V).map cB:=by simp[splice,shR,List.map_take,List.map_drop]
   show w4.heap[_]?=_;rw[ba,e]
  have Yd:=O C;have UK:=O bb;have D:=O (IV V d);have R:=C.cell (i:=4) (by rw[D];decide);have f4:=C.frozen 4;have f0:=C.frozen 0;have B:=C.cell (i:=0) (by rw[D];decide);clear C ba bb bo bn bl bk bi bc U ad;have U:sA V M Q=((shR V).set 4 ((shR V).getD 4 0+pR V M Q)).set 0 (pR V M Q+qR V):=T;have C:=O U;clear U;generalize shR V=U at Yd R B C;generalize ad:U.getD 4 0=s4 at R C;generalize U.getD 0 0=s0 at B;generalize pR V M Q=pp at C⊢;generalize qR V=qq at C⊢
  go_wp2
  go_roundw
  case rel=>
   refine⟨r+1,by go_num,by omega,?_,?_⟩
   ·rw[aa,C]
    have h1:=Yd.set 4 (s4+pp);have h2:=h1.set 0 (pp+qq);simp only[ly];exact h2
   exact(UK.setCell (jA _) _).setCell (jA _) _
  case measure=>simp[jC];omega
 have j:r=64:=Y;have v:jm (aU wr H 296 (kI s m 64)):=j▸h;clear h j;have bB:=az ((r:N)<64);have d:=O (GJ s m 64 hs);generalize kI s m 64=V at v d ay;have C:jm (aU wr g 296 (kt s V 0)):=(z.block _ (by show g<H;omega)).trans bA;obtain⟨j,rfl⟩:∃j:jc,j=wr:=⟨_,T⟩
 go_wp2_with fail
 go_loopw [129] (λa K=>∃i:I,a=ja jg i/\i<=8/\jm (aU K g 296 (kt s V i))/\jm (bR g j K)) (λa _=>(8-jC a).toNat)
 case atStart=>exact⟨0,T,by omega,C,bR.refl _ _⟩
 obtain⟨i,rfl,Q,a,h⟩:=hrel
 by_cases R:i<8
 ·have K:jm (aU wr H 296 V):=(h.block _ (by show H≠g;omega)).trans v
  have M:=a.cell (i:=i) (by rw[Et];omega);have B:=K.cell (i:=i) (by rw[d];omega);have F:=a.frozen i;have p:jm (kt s V (i+1)=(kt s V i).set i ((kt s V i).getD i 0+V.getD i 0)):=O T;generalize(kt s V i).getD i 0=x at M p;generalize V.getD i 0=y at B p
  go_upto_region 24 with fail
  go_region
  rw[ly x y]
  go_wp2
  go_roundw
  case rel=>
   refine⟨i+1,by go_num,by omega,?_,?_⟩
   ·rw[p,ly];exact aU.set (W:=wr) a _ _
   exact h.trans (bR.trans (bR.setCell _ _ _ _) ⟨T,T,T,T,λ_ _=>rfl⟩)
  case measure=>simp[jC];omega
 have p:i=8:=Y;have x:jm (aU wr g 296 (pi s b)):=by rw[ay];exact p▸a
 clear a p
 go_wp2
 go_end0
 refine⟨T,x,λk hk a=>?_,?_⟩
 ·exact(h.block k a).trans ((z.block k Y).trans (UC.block k hk))
 exact((UC.mono (qj _)).trans (z.mono (qj _))).trans (h.below (qj _))
structure dw(g B:I)(w w':jc):Prop where
 os:w'.os=w.os
 tape:w'.tape=w.tape
 output:w'.output=w.output
 size:w.heap.size<=w'.heap.size
 block:∀k,k<B->k≠g->w'.heap[k]?=w.heap[k]?
theorem dw.refl(g B:I)(w:jc):dw g B w w:=⟨T,T,T,jA _,λ_ _ _=>rfl⟩
theorem dw.trans{g d:I}{b c:jc}(h:dw g B a b)(k:dw g d b c)(j:B<=d):dw g B a c:=
 ⟨k.os.trans h.os,k.tape.trans h.tape,k.output.trans h.output,qb h.size k.size,λi f e=>(k.block i Y e).trans (h.block i f e)⟩
theorem dw.below{g n:I}(h:dw g B w w')(a:n<=g)(b:n<=B):jn n w w':=
 ⟨h.os,h.tape,h.output,h.size,λk c=>h.block k Y Y⟩
theorem dw.of_below{g:I}(h:jn B w w'):dw g B w w':=
 ⟨h.os,h.tape,h.output,h.size,λk a _=>h.block k a⟩
theorem bR.but{g:I}(h:bR g w w')(B:I):dw g B w w':=
 ⟨h.os,h.tape,h.output,qO h.size.symm,λk _ a=>h.block k a⟩
def gG(s:je (jl 32))(l:LBy):I->je (jl 32)
 |0=>s
 |k+1=>pi (gG s l k) ((l.drop (64*k)).take 64)
theorem uR(s l k)(h:s.length=8):(gG s l k).length=8:=by induction k with
 |zero=>exact h
 |succ k a=>exact K5 _ _ a
theorem EP(g gb o n c:I)(s:je (jl 32))(b:LBy)(a:s.length=8)(d:b.length=64)(f:64<=n)(i:n<=c)(w:jc)
 (k:aU w g 296 s) (l:∀j,j<64->w.cell? ⟨gb,o+j,jd⟩=A (ja jF (b.getD j 0).toNat)) (j:eP w):
 ju ji 202 #[jG (A ⟨g,0,jd⟩),jp (A ⟨gb,o,jd⟩) n c] w λe w'=>
  e=js (jL #[])/\aU w' g 296 (pi s b)/\dw g w.heap.size w w':=
 (R9 g gb o n c s b a d f i w k l j).mono λe w' h=>⟨h.1,h.2.1,h.2.2.2.os,h.2.2.2.tape,h.2.2.2.output,h.2.2.2.size,h.2.2.1⟩
def fG:je (jl 32):=[1779033703,3144134277,1013904242,2773480762,1359893119,2600822924,528734635,1541459225]
def gM(w:jc):Prop:=Lib.TabIs ji w "chartroom/digest.start" .u32 (fG.map λx=>(x.toNat:N))
theorem OQ:ji.globalNamed "chartroom/digest.start" =A 0:=by kernel_rfl
theorem gM.cell(h:gM w)(t:I)(a:t<8):w.cell? ⟨0,t,jd⟩=A (ja jr (fG.getD t 0).toNat):=by
 have:=Lib.TabIs.cell h OQ t (by simpa [fG]using a);rw[this];have b:t<fG.length:=a;simp[b,jU]
def kP(n:I):I:=if 55<n%64 then 128 else 64
def nV(l:LBy):LBy:=(splice (nv 128 0) 0 (l.drop (64*(l.length/64)))).set (l.length%64) 0x80
def oQ(l:LBy):LBy:=kM (nV l) (kP l.length-8) 8 (n0 64 (l.length*8)) 8
def ey(s:je (jl 32)):I->LBy
 |0=>nv 32 0
 |i+1=>kM (ey s i) (4*i) 4 ((s.getD i 0).setWidth 64) 4
theorem CU(s i):(ey s i).length=32:=by induction i with
 |zero=>simp[ey]
 |succ i a=>simp[ey,AH,a]
def dM(l:LBy):LBy:=ey (gG (gG fG l (l.length/64)) (oQ l) (kP l.length/64)) 8
theorem mM(l):(dM l).length=32:=CU _ _
theorem Ez(l:LBy):(nV l).length=128:=by
 unfold nV;rw[List.length_set,length_splice _ _ _ (by simp;omega)];simp
theorem Uh(l:LBy):(oQ l).length=128:=by rw[oQ,AH,Ez]
theorem BO(l:LBy)(k:I)(h:64*k+64<=l.length):((l.drop (64*k)).take 64).length=64:=by simp;omega
theorem GT(l:LBy)(k j:I)(h:j<64):((l.drop (64*k)).take 64).getD j 0=l.getD (64*k+j) 0:=by
 simp[jU,h]
def lenOf:jh->I
 | .slice _ n _=>n
 |_=>0
theorem uC(t e:jq)(a:P.underlying t=A (.slice e))(b:∀w,(sizeOf e).run P w=.ok 1 w)(g o n c h:I)(d:h<=c)(f:0<c)(W:jc):
 (Instr.sliceAt t (jp (A ⟨g,o,jd⟩) n c) jd (A (ja jg (h:N))) jd).run P W=.ok (jp (A ⟨g,o,jd⟩) h c) W:=by
 have he:P.elem t=e:=by simp[Program.elem,a]
 rw[xx W t _ _ _ _ (by rw[he];exact a),run_slice_h W t _ n c (by rw[he];exact a) .i64 _ Y Y,he];simp[b,Result.andThen,sliced,Addr.add]
 try(rw[j5 Y])
 try(split<;>simp[*])
theorem GB(t e:jq)(a:P.underlying t=A (.slice e))(b:∀w,(sizeOf e).run P w=.ok 1 w)(g o n c l:I)(d:l<=n)(f:n<=c):
 ∃p,(0<n-l->p=A ⟨g,o+l,jd⟩)/\∀W,(Instr.sliceAt t (jp (A ⟨g,o,jd⟩) n c) (A (ja jg (l:N))) jd jd).run P W=.ok (jp p (n-l) (c-l)) W:=by
 have he:P.elem t=e:=by simp[Program.elem,a]
 refine⟨if c=l then A ⟨g,o,jd⟩else A ⟨g,o+l,jd⟩,λh=>by rw[j5 Y],λW=>?_⟩;rw[xx W t _ _ _ _ (by rw[he];exact a),run_slice_l W t _ n c (by rw[he];exact a) .i64 _ Y Y,he];simp[b,Result.andThen,sliced,Addr.add]
 by_cases h:c=l
 ·simp[h]
 simp[h]
theorem Kg(t e:jq)(n:I)(a:P.underlying t=A (.array n e))(c:∀w,(sizeOf e).run P w=.ok 1 w)(g o l h:I)(d:l<=h)(f:h<=n)(i:l<n)(W:jc):
 (Instr.sliceAt t (jG (A ⟨g,o,jd⟩)) (A (ja jg (l:N))) (A (ja jg (h:N))) jd).run P W=.ok (jp (A ⟨g,o+l,jd⟩) (h-l) (n-l)) W:=by
 have he:P.elem t=e:=by simp[Program.elem,a]
 have b:P.arrayLen t=n:=by simp[Program.arrayLen,a]
 rw[run_sliceAt_array_lh W t _ (by rw[he,b];exact a) .i64 .i64 _ _ Y Y (by rw[b];omega)];rw[he,b];simp[c,Result.andThen,slicedAt,Addr.add];rw[j5 Y]
 split<;>simp[*]
theorem Sa(g o c:I)(t:jq)(a:LBy)(x:jl 32)(w:jc)(h:cJ w g t a)(b:o+4<=a.length)(d:4<=c):
 ju ji 203 #[jp (A ⟨g,o,jd⟩) 4 c,ja jk x.toNat] w λe w'=>e=js (jL #[])/\bR g w w'/\cJ w' g t (kM a o 4 (x.setWidth 64) 4):=by
 have e:(x.toNat:N)=((x.setWidth 64).toNat:N):=by have:=x.isLt;rw[qQ,j3 Y]
 rw[e];exact Di g o c 4 t G a (x.setWidth 64) w h b d
theorem O1(g o c:I)(t:jq)(a:LBy)(n:I)(f:n<1000000000)(w:jc)(h:cJ w g t a)(b:o+8<=a.length)(d:8<=c):
 ju ji 203 #[jp (A ⟨g,o,jd⟩) 8 c,ja jk ((n:N)*8)] w λe w'=>e=js (jL #[])/\bR g w w'/\cJ w' g t (kM a o 8 (n0 64 (n*8)) 8):=by
 have e:(n:N)*8=((n0 64 (n*8)).toNat:N):=by rw[xe,j3 Y];simp
 rw[e];exact Di g o c 8 t G a (n0 64 (n*8)) w h b d
def rp:LBy:=nv 128 0
theorem Nx:madeCells (jb .u8 0).cells (128*1)=(rp.map v8).toArray:=by
 kernel_rfl
theorem iT(l:LBy):∀u∈l.map v8,u.oneCell'=jf:=by
 intro u a;obtain⟨x,_,rfl⟩:=qc.1 a
 rfl
theorem Mb:(ji.info? 5).map (λi=>(i.zero,i.size,i.bytes))=A (A (ja jF 0),1,1):=by kernel_rfl
theorem Ov(w:jc):(Instr.makeSlice 66 (ja jg 64) (ja jg 128)).run ji w=.ok (jp (A ⟨w,0,jd⟩) 64 128) (w.alloc (jj (rp.map v8).toArray 5)):=by
 obtain⟨a,b,c,d,e⟩:=qd Mb;have h:=run_make (P:=ji) w 66 5 a (ja jF 0) jR b c .i64 .i64 64 128 G G (by rw[e];decide) G;rw[d,show((128:N).toNat*1)=128*1 from T,Nx]at h;exact h
theorem NA(V:je (jl 32))(c:V.length=8)(k:I)(b:k<8)(W:jc):
 (Instr.index 296 (jS (V.map cB).toArray) (ja jg (k:N))).run ji W=.ok (ja jr ((V.getD k 0).toNat:N)) W:=by
 have d:=underlying296;have agg46:∀w,(isAgg 223).run ji w=.ok jz w:=λw=>by go_simp
 have size46:∀w,(sizeOf 223).run ji w=.ok 1 w:=λw=>by go_simp
 have a:V[k]?=A (V.getD k 0):=by simp[c,b,jU]
 unfold Instr.index;simp only[xS]at a⊢;generalize V[k]?.getD 0=x at a⊢;simp[asIntOf,xw d,part,agg46,size46,a,b]
theorem eP.below(h:eP w)(a:jn B w w')(b:w.heap.size<=B):eP w':=(Lib.tabBelow_of_tabIs h) _ (a.mono b)
theorem uc(v:jh)(l:LBy)(hl:l.length<=1000000)(w:jc)(hv:bj w v l)(k:eP w)(a:gM w):
 ju ji 147 #[v] w λe w'=>e=js (jS ((dM l).map v8).toArray)/\jn w w w':=by
 obtain⟨p0,c0,rfl,YP,t,r⟩:=hv;obtain⟨g,o,s,m⟩:∃g o,(0<l.length->p0=A ⟨g,o,jd⟩)/\(∀j,j<l.length->g<w.heap.size/\w.cell? ⟨g,o+j,jd⟩=A (ja jF (l.getD j 0).toNat)):=by
  rcases qh l.length with b|b
  ·exact⟨0,0,λh=>by omega,λj d=>by omega⟩
  obtain⟨g,o,f,c⟩:=r b;exact⟨g,o,λ_=>f,λj d=>⟨mf (c j d),c j d⟩⟩
 have YD:=O s;have VJ:=O m;have HN:=O k;have c:=a.cell 0 G;have t1:=a.cell 1 G;have t2:=a.cell 2 G;have f:=a.cell 3 G;have i:=a.cell 4 G;have n:=a.cell 5 G;have p:=a.cell 6 G;have q:=a.cell 7 G;have C:0<w.heap.size:=mf c;clear s m t r k a;have a:(fG.map cB).toArray= #[cB (fG.getD 0 0),cB (fG.getD 1 0),cB (fG.getD 2 0),cB (fG.getD 3 0),cB (fG.getD 4 0),cB (fG.getD 5 0),cB (fG.getD 6 0),cB (fG.getD 7 0)]:=T;have k:fG.length=8:=T;have r:dM l=ey (gG (gG fG l (l.length/64)) (oQ l) (kP l.length/64)) 8:=T;have u:=O r;clear r;generalize fG=b at c t1 t2 f i n p q a k u;generalize b.getD 0 0=H at c a;generalize b.getD 1 0=s1 at t1 a;generalize b.getD 2 0=s2 at t2 a;generalize b.getD 3 0=s3 at f a;generalize b.getD 4 0=s4 at i a;generalize b.getD 5 0=s5 at n a;generalize b.getD 6 0=s6 at p a;generalize b.getD 7 0=s7 at q a;have B:=O a;have bi:=O k;clear a k
 go_enter func147,ntmps147
 go_upto_region 2 with fail
 have a:aU ((w.alloc (jj a8 23)).alloc (jj #[jb jo H.toNat,jb jo s1.toNat,jb jo s2.toNat,jb jo s3.toNat,jb jo s4.toNat,jb jo s5.toNat,jb jo s6.toNat,jb jo s7.toNat] 296)) (w.heap.size+1) 296 (gG b l 0):=by
  have:=jO (w.alloc (jj a8 23)) (jj #[jb jo H.toNat,jb jo s1.toNat,jb jo s2.toNat,jb jo s3.toNat,jb jo s4.toNat,jb jo s5.toNat,jb jo s6.toNat,jb jo s7.toNat] 296);rw[j8]at this;show _ =A (Obj.cells (b.map cB).toArray 296 (0,0));rw[B];exact this
 have r:cJ ((w.alloc (jj a8 23)).alloc (jj #[jb jo H.toNat,jb jo s1.toNat,jb jo s2.toNat,jb jo s3.toNat,jb jo s4.toNat,jb jo s5.toNat,jb jo s6.toNat,jb jo s7.toNat] 296)) w.heap.size 23 (ey [] 0):=by
  have:=jO w (jj a8 23);exact(jH _ _ _ ar).trans this
 have s:jn w w ((w.alloc (jj a8 23)).alloc (jj #[jb jo H.toNat,jb jo s1.toNat,jb jo s2.toNat,jb jo s3.toNat,jb jo s4.toNat,jb jo s5.toNat,jb jo s6.toNat,jb jo s7.toNat] 296)):=
  ⟨rfl,rfl,rfl,by simp;omega,λk hk=>by rw[jH _ _ _ (by simp;omega),jH _ _ _ hk]⟩
 obtain⟨K,t⟩:=J ((w.alloc (jj a8 23)).alloc (jj #[jb jo H.toNat,jb jo s1.toNat,jb jo s2.toNat,jb jo s3.toNat,jb jo s4.toNat,jb jo s5.toNat,jb jo s6.toNat,jb jo s7.toNat] 296));have x:K.heap.size=w.heap.size+2:=by rw[t];simp
 rw[<-t]at a r s⊢;obtain⟨D,y⟩:=J w.heap.size;have HA:=O a;have HD:=O r;have z:=O s;rw[<-y]at HA HD z x VJ⊢;have a3:=O x;have a4:=O y;clear a r s t x c t1 t2 f i n p q B C y
 go_wp2_with fail
 go_loopw [5] (λv f=>∃(k n c:I) (p:jE jP),v=jp p n c/\n<=c/\jm (64*k<=l.length/\n=l.length-64*k/\(0<n->p=A ⟨g,o+64*k,jd⟩))/\jm (aU f (D+1) 296 (gG b l k))/\jm (dw (D+1) (D+2) K f)) (λv _=>lenOf v)
 case atStart=>exact⟨0,l.length,c0,p0,T,YP,⟨by omega,by omega,YD⟩,HA,dw.refl _ _ _⟩
 obtain⟨k,n,c,p,rfl,bv,i,x,a⟩:=hrel
 by_cases B:64<=n
 ·have hd:=aA (64<=(n:N))
  go_upto_region 6 with fail
  obtain⟨q1,q2,M⟩:=i.out;obtain rfl:p=A ⟨g,o+64*k,jd⟩:=M Y;have Q:=BO l k Y;have R:∀j,j<64->wr.cell? ⟨g,(o+64*k)+j,jd⟩=A (ja jF (((l.drop (64*k)).take 64).getD j 0).toNat):=λj d=>by
   obtain⟨r1,r2⟩:=VJ (64*k+j) Y;rw[GT l k j d,rn];exact gh r2 ((a.block _ (by show g<_;omega) (by show g≠_;omega)).trans (z.block _ (by show g<_;omega)))
  have VX:=O R;have a5:=O Q;have S:eP wr:=HN.below (z.trans (a.below Y Y)) (aI a4);have a6:=O S;have ba:=O (uR b l k bi);obtain⟨U,V,s⟩:=GB (P:=ji) 66 5 jR iJ g (o+64*k) n c 64 B bv;have bb:=O V;have bw:∀W,(Instr.sliceAt 66 (jp (A ⟨g,o+64*k,jd⟩) n c) jd (A (ja jg 64)) jd).run ji W=.ok (jp (A ⟨g,o+64*k,jd⟩) 64 c) W:=
   uC (P:=ji) 66 5 jR iJ g (o+64*k) n c 64 Y Y
  replace s:∀W,(Instr.sliceAt 66 (jp (A ⟨g,o+64*k,jd⟩) n c) (A (ja jg 64)) jd jd).run ji W=.ok (jp U (n-64) (c-64)) W:=s;clear R Q S V M q1 q2
  go_wp2_with fail
  refine(EP (D+1) g (o+64*k) 64 c _ _ ba.out a5 (jA _) Y _ x.out VX a6).mono ?_;rintro e w' ⟨rfl,t,X⟩;have aa:=O t;have bc:=O (a.trans X (by have:=a.size;have:=a3.out;omega));clear t X
  go_wp2
  go_roundw
  case rel=>
   have q:=i.out;refine⟨k+1,n-64,c-64,U,T,by omega,⟨by omega,by omega,λh=>?_⟩,aa,bc⟩;rw[bb h];congr 2
  case measure=>simp[lenOf];omega
 have r:k=l.length/64/\n=l.length%64:=aI i;have bB:n<64:=Y;have hd:=az (64<=(n:N));have E:0<n->p=A ⟨g,o+64*k,jd⟩:=i.2.2;have F:(l.drop (64*k)).length=n:=by have:=i.out;simp;omega
 have au:nV l=(splice (nv 128 0) 0 (l.drop (64*k))).set n 0x80:=by rw[nV,r.1,r.2]
 have a1:dM l=ey (gG (gG b l k) (oQ l) (kP l.length/64)) 8:=by rw[u,r.1]
 have a2:kP l.length=if 55<n then 128 else 64:=by rw[kP,r.2]
 have bk:=O au;have ad:=O a1;have C:=O a2;have bl:=O E;have ax:=O F;have y:=x;have ay:=O (uR b l k bi);clear r E F au a1 a2 i x u B;generalize gG b l k=x at y ad ay;have u:=Ov;obtain⟨Z,i⟩:=J (rp.map v8);rw[<-i]at u;have r:=O i;clear i;have a1:jm (D+2<=wr.heap.size):=O (by have:=a.size;have:=a3.out;omega)
 go_upto_region 8 with fail
 clear u;have i:cJ (wr.alloc (jj Z.toArray 5)) wr.heap.size 5 (nv 128 0):=by
  have:=jO wr (jj Z.toArray 5);show _ =A (Obj.cells (rp.map v8).toArray 5 (0,0));rw[<-r];exact this
 have a2:aU (wr.alloc (jj Z.toArray 5)) (D+1) 296 x:=(jH _ _ _ y.lt).trans y;have B:dw (D+1) (D+2) K (wr.alloc (jj Z.toArray 5)):=a.trans (dw.of_below (g:=D+1) ((jM wr.heap.size wr).alloc (jA _) _)) a1;have F:(wr.alloc (jj Z.toArray 5)).heap.size=wr.heap.size+1:=by simp
 obtain⟨W8,bh⟩:=J (wr.alloc (jj Z.toArray 5));rw[<-bh]at i a2 B F⊢;obtain⟨E,hE⟩:=J wr.heap.size;rw[<-hE]at i F a1⊢;have bm:D+2<=E:=a1.out;have Yt:=O a2;have WJ:=O B;have bn:=O F;have bo:∀(j:I) (u:jh),((l.drop (64*k)).map v8)[j]?=A u->W8.cell? ((⟨g,o+64*k,jd⟩:jP).add j)=A u:=by
  intro j u d;have au:j<(l.drop (64*k)).length:=by
   have:=(o3.1 d).1
   simpa using this
  have VQ:64*k+j<l.length:=by simp at au;omega
  obtain⟨r1,r2⟩:=VJ (64*k+j) VQ;rw[EA,rn,gh r2 ((B.block _ (by show g<_;omega) (by show g≠_;omega)).trans (z.block _ (by show g<_;omega)))];simp[VQ]at d;simp[<-d,v8,jU,VQ]
 have bd:=O bo;have bp:=O (show W8.heap[E]?=A (jj Z.toArray 5 (0,0)) by rw[r];exact i);have bf:=O (iT (l.drop (64*k)));have bq:0+((l.drop (64*k)).map v8).length<=Z.length:=by
  have h1:=ax.out;rw[r,j9,h1,j9];simp[rp];omega
 have bg:=O bq;have m:((l.drop (64*k)).map v8).length=n:=by rw[j9];exact ax
 have au:=O m;clear a2 B F bo bq m i bh hE a y;obtain⟨RB,a⟩:=J ((l.drop (64*k)).map v8);rw[<-a]at bd bf bg au;have bo:=O a;clear a
 go_upto_region 9 with(refine wpList_copy_splice T (.tmp 22) (.tmp 23) 66 66 T 5 jR T (A ⟨E,0,jd⟩) p 64 128 n c aj aj E 0 Z 5 bp RB (by rw[au];exact(Nat.min_eq_left Y).symm) (λh=>⟨T,_,bl.out (by rw[<-au];exact h),bd⟩) bg bf E W8 (jM _ _) (jA _) ?_;intro B y F)
 have a:cJ B E 5 (splice (nv 128 0) 0 (l.drop (64*k))):=by
  show B.heap[E]?=_;rw[y,r,bo];simp[splice,rp,xU,List.map_drop]
 have H9:=O a;have m:=O F;have a2:(splice (nv 128 (0:jl 8)) 0 (l.drop (64*k))).length=128:=by rw[length_splice _ _ _ (by rw[ax];simp;omega)];simp
 have c9:=a.cell (i:=n) (by rw[a2];omega);have f9:=a.frozen n;clear a y F a2
 go_upto_if 31 with(fail)
 have a:cJ (B.setCell ⟨E,n,jd⟩ (ja jF 128)) E 5 (nV l):=by rw[bk];exact H9.set n 0x80
 have y:aU (B.setCell ⟨E,n,jd⟩ (ja jF 128)) (D+1) 296 x:=(qe _ _ _ _ (by show D+1≠E;omega)).trans ((m.block _ Y).trans Yt);have F:dw (D+1) (D+2) K (B.setCell ⟨E,n,jd⟩ (ja jF 128)):=WJ.trans (dw.of_below (g:=D+1) (m.setCell (jA E) _)) bm;have a2:E<(B.setCell ⟨E,n,jd⟩ (ja jF 128)).heap.size:=by have:=m.size;have:=bn.out;simp;omega
 obtain⟨bA,bq⟩:=J (B.setCell ⟨E,n,jd⟩ (ja jF 128));rw[<-bq]at a y F a2⊢;have bh:=O a;have br:=O y;have bs:=O F;have bu:=O a2;clear a y F a2 bq c9 f9 H9 m au bg bf bp bd bo
 go_cut [6] (λv f=>v=jp (A ⟨E,0,jd⟩) (kP l.length) 128/\bA=f)
 case first=>
  by_cases m:55<n
  ·have a:=aA (55<(n:N))
   rw[a];have y:∀W,(Instr.sliceAt 66 (jp (A ⟨E,0,jd⟩) 64 128) jd (A (ja jg 128)) jd).run ji W=.ok (jp (A ⟨E,0,jd⟩) 128 128) W:=
    uC (P:=ji) 66 5 jR iJ E 0 64 128 128 Y Y
   go_wp2_with fail
   go_meet
   exact⟨by rw[C,pz m],T⟩
  have a:=az (55<(n:N));rw[a]
  go_wp2_with fail
  go_meet
  exact⟨by rw[C,j5 m],T⟩
 obtain⟨rfl,rfl⟩:=hcut;have F:kP l.length=64\/kP l.length=128:=by rw[C];split<;>simp
 have a:oQ l=kM (nV l) (kP l.length-8) 8 (n0 64 (l.length*8)) 8:=T;have y:=O a;have VR:=O (Uh l);have bd:=O (Ez l);clear a C bk;generalize kP l.length=a at F y ad⊢;generalize oQ l=m at ad y VR;generalize nV l=ea at y bh bd;have bC:64<=a:=Y;have bq:a<=128:=Y;have bg:∀W,(Instr.sliceAt 66 (jp (A ⟨E,0,jd⟩) a 128) (A (ja jg ((a:N)-8))) jd jd).run ji W=.ok (jp (A ⟨E,a-8,jd⟩) 8 (128-(a-8))) W:=λW=>by
  have h:=yu (P:=ji) 66 5 jR iJ E 0 a 128 (a-8) Y Y W;rw[show((a-8:I):N)=(a:N)-8 by omega,show a-(a-8)=8 by omega,mz]at h;exact h
 have a2:=O F;clear F
 go_wp2_with fail
 refine(O1 E (a-8) (128-(a-8)) 5 ea l.length Y _ bh.out (by rw[bd];omega) Y).mono ?_;rintro e F ⟨rfl,C,bf⟩;rw[<-y]at bf;have bk:=O bf;have bo:jm (aU F (D+1) 296 (gG x m 0)):=(C.block _ Y).trans br;have UR:jm (dw (D+1) (D+2) K F):=bs.trans (dw.of_below (g:=D+1) (C.below (jA E))) bm;have bp:E<F.heap.size:=by have:=C.size;have:=bu.out;omega
 have au:=O bp;clear C bf bp bg bh br bs bu y bd Yt WJ bn r bl ax a1 HA
 go_wp2_with fail
 go_loopw [6] (λv f=>∃(k n c:I) (p:jE jP),v=jp p n c/\n<=c/\jm (64*k<=a/\n=a-64*k/\(0<n->p=A ⟨E,64*k,jd⟩))/\jm (aU f (D+1) 296 (gG x m k))/\jm (dw (D+1) F.heap.size F f)) (λv _=>lenOf v)
 case atStart=>exact⟨0,a,128,A ⟨E,0,jd⟩,T,bq,⟨by omega,by omega,λ_=>rfl⟩,bo,dw.refl _ _ _⟩
 obtain⟨k2,r,y,p2,rfl,a1,VL,ax,C⟩:=hrel
 by_cases Vs:0<r
 ·have hd2:=aA (0<(r:N))
  go_upto_region 15 with fail
  obtain⟨q1,q2,M⟩:=VL.out;obtain rfl:p2=A ⟨E,64*k2,jd⟩:=M Y;have Q:=BO m k2 (by rw[VR];have:=a2.out;omega);have bd:64<=r:=aI a2;have R:∀j,j<64->wr.cell? ⟨E,64*k2+j,jd⟩=A (ja jF (((m.drop (64*k2)).take 64).getD j 0).toNat):=λj d=>by
   have h1:cJ wr E 5 m:=(C.block _ au.out Y).trans bk;rw[GT m k2 j d];exact h1.cell (by rw[VR];omega)
  have VX:=O R;have a5:=O Q;have bf:D+1<F.heap.size:=aI au;have S:eP wr:=HN.below (z.trans ((UR.below Y Y).trans (C.below Y Y))) (aI a4);have a6:=O S;have ba:=O (uR x m k2 ay);have bw:∀W,(Instr.sliceAt 66 (jp (A ⟨E,64*k2,jd⟩) r y) jd (A (ja jg 64)) jd).run ji W=.ok (jp (A ⟨E,64*k2,jd⟩) 64 y) W:=
   uC (P:=ji) 66 5 jR iJ E (64*k2) r y 64 Y Y
  obtain⟨U,V,s⟩:=GB (P:=ji) 66 5 jR iJ E (64*k2) r y 64 bd a1;have bb:=O V;replace s:∀W,(Instr.sliceAt 66 (jp (A ⟨E,64*k2,jd⟩) r y) (A (ja jg 64)) jd jd).run ji W=.ok (jp U (r-64) (y-64)) W:=s;clear R Q S V M q1 q2
  go_wp2_with fail
  refine(EP (D+1) E (64*k2) 64 y _ _ ba.out a5 (jA _) Y _ ax.out VX a6).mono ?_;rintro e w' ⟨rfl,t,X⟩;have aa:=O t;have bc:=O (C.trans X C.size);clear t X
  go_wp2
  go_roundw
  case rel=>
   have q:=VL.out;refine⟨k2+1,r-64,y-64,U,T,by omega,⟨by omega,by omega,λh=>?_⟩,aa,bc⟩;rw[bb h];congr 2
  case measure=>simp[lenOf];omega
 obtain rfl:r=0:=Y;have M:k2=a/64:=by have:=VL.out;have:=a2.out;omega
 have d:jm (aU wr (D+1) 296 (gG x m (a/64))):=M▸ax;have q:=O (uR x m (a/64) ay);clear ax M Vs;generalize gG x m (a/64)=V at d q ad;have M:cJ wr D 23 (ey V 0):=(C.block _ (aI au) Y).trans ((UR.block _ Y Y).trans HD);have Q:jn D w wr:=z.trans ((UR.below Y Y).trans (C.below Y (aI au)));have R:=O M;have S:=O Q;clear M Q C UR HD z VL bk bo a2 VR au a3 ay
 go_upto_region 16 with fail
 refine ql ?_;refine qn T 296 _ T (D+1) T 296 (V.map cB).toArray (0,0) _ d.out underlying296 T (by rw[jW,j9,q];rfl) ?_;have z:∀(k:I) (hk:k<8) (W:jc),(Instr.index 296 (jS (V.map cB).toArray) (ja jg (k:N))).run ji W=.ok (ja jr ((V.getD k 0).toNat:N)) W:=λk hk W=>NA V q k hk W
 generalize(V.map cB).toArray=a2 at z⊢;have Q:=O z;clear z d;obtain⟨z,rfl⟩:∃z:jc,z=wr:=⟨_,T⟩
 go_wp2_with fail
 go_loopw [54] (λd f=>∃i:I,d=ja jg i/\i<=8/\jm (cJ f D 23 (ey V i))/\jm (bR D z f)) (λd _=>(8-jC d).toNat)
 case atStart=>exact⟨0,T,by omega,R,bR.refl _ _⟩
 obtain⟨i,rfl,hi,d,M⟩:=hrel
 by_cases U:i<8
 ·have X:=Q i U
  have f:ey V (i+1)=kM (ey V i) (4*i) 4 ((V.getD i 0).setWidth 64) 4:=T;have C:=O f;have au:=O (CU V i);have bg:∀W,(Instr.sliceAt 23 (jG (A ⟨D,0,jd⟩)) (A (ja jg (4*(i:N)))) (A (ja jg (4*(i:N)+4))) jd).run ji W=.ok (jp (A ⟨D,4*i,jd⟩) 4 (32-4*i)) W:=λW=>by
   have h:=Kg (P:=ji) 23 5 32 qF iJ D 0 (4*i) (4*i+4) Y Y Y W;rw[show 4*i+4-4*i=4 by omega,mz]at h
   simpa using h
  clear f;generalize V.getD i 0=h at X C;have ax:=aA ((i:N)<8)
  go_wp2_with fail
  refine(Sa D (4*i) (32-4*i) 23 (ey V i) h _ d.out (by rw[au];omega) Y).mono ?_;rintro e w' ⟨rfl,f,t⟩;rw[<-C]at t;have aa:=O t;have ay:=O (M.trans f);clear f t
  go_wp2
  go_roundw
  case rel=>exact⟨i+1,by go_num,by omega,aa,ay⟩
  case measure=>simp[jC];omega
 have ax:=az ((i:N)<8);have f:i=8:=Y;have X:jm (cJ wr D 23 (dM l)):=by rw[ad];exact f▸d
 clear d f;have h:wr.heap[D]?=A (jj ((dM l).map v8).toArray 23 (0,0)):=X.out;have s:((dM l).map v8).toArray.size=32:=by rw[jW,j9,mM]
 have t:((dM l).map v8).toArray.all (·.oneCell')=jf:=by
  rw[qf];intro u d;exact iT _ u (ak d)
 have d:jn w w wr:=by rw[<-a4];exact S.trans (M.below (jA _))
 have UX:=O d;clear d;generalize f:((dM l).map v8).toArray=d at h s t;have HQ:=O f;clear f;have f:=O h;have C:=O s;have Vw:=O t;clear h s t
 go_upto_region 21 with fail
 refine ql ?_;refine qn T 23 _ T D T 23 d (0,0) _ f.out qF T (by rw[C];rfl) ?_;refine qo T λ_ h=>r8 23 _ _ T D d T T 23 d f.out (by rw[C];rfl) T Vw (h _ _ ?_)
 rw[rx f]
 go_wp2_with fail
 refine o8 (v:=jS d) ?_ T ?_
 ·exact r9 T _ _ _ 23 _ (0,0) _ T f qF T (by rw[C];rfl)
 exact⟨by rw[HQ],UX⟩
theorem vC:(ji.info? 23).map (·.size)=A 32:=by kernel_rfl
theorem zw(w:jc)(c a:jt jh)(d:c.size=32)(b:a.size=32)(e:a.all (·.oneCell')=jf):
 (storeCells ⟨w,0,jd⟩ a.toList 0).run ji (w.alloc (jj c 23))=.ok () (w.alloc (jj a 23)):=
 run_storeCells_new w _ c a (by rw[vC,b]) (by rw[d,b]) e
def gR:LBy:=[116,97,103]
def dm(t l:LBy):LBy:=dM (dM t++l)
theorem iN(t l):(dm t l).length=32:=mM _
theorem cJ.lt'(h:cJ w B t d):B<w.heap.size:=(jQ.1 h).1
theorem eP.lt(h:eP w):4<w.heap.size:=mf (h.cell 0 G)
theorem gM.below(h:gM w)(a:jn B w w')(b:w.heap.size<=B):gM w':=(Lib.tabBelow_of_tabIs h) _ (a.mono b)
def tb:ByteArray:=⟨#[116,97,103]⟩
def oR(w:jc):jc:=Lib.bytesWorld w 5 tb
def yG(w:jc):I:=grownCap w 3 0 5
theorem JI(w:jc):(convert 9 66 (qG ⟨#[116,97,103]⟩)).run ji w=.ok (jp (A ⟨w,0,jd⟩) 3 (yG w)) (oR w):=
 Lib.run_convert_string_bytes (P:=ji) w 9 66 5 tb qB jR qT
theorem Lf(w:jc):bj (oR w) (jp (A ⟨w,0,jd⟩) 3 (yG w)) gR:=by
 refine⟨_,_,T,grownCap_ge w 3 0 5,λh=>(by cases h),λ_=>⟨w.heap.size,0,T,λj a=>?_⟩⟩;have h:=Lib.bytesWorld_cell w 5 tb j a;rw[mz];refine h.trans ?_
 match j,a with
 |0,_=>rfl
 |1,_=>rfl
 |2,_=>rfl
theorem IK(w:jc)(B:I)(a:B<=w.heap.size):jn B w (oR w):=by
 refine⟨T,T,T,?_,λk b=>Lib.bytesWorld_at_old w 5 tb k Y⟩;have:=Lib.bytesWorld_size w 5 tb;unfold oR;omega
theorem Jv(v:jh)(l:LBy)(W:l.length<=900000)(w:jc)(y:bj w v l)(a:eP w)(b:gM w):
 ju ji 93 #[qG ⟨#[116,97,103]⟩,v] w λe w'=>e=js (jS ((dm gR l).map v8).toArray)/\jn w w w':=by
 have q:=JI;have M:=O y;obtain⟨n,o,rfl,-,-,-⟩:=y;have z:=O a;have B:=O b;clear a b
 go_enter func93,ntmps93
 go_wp2_with fail
 have a:jn w w (w.alloc (jj a8 23)):=(jM _ w).alloc (jA _) _;have f:cJ (w.alloc (jj a8 23)) w.heap.size 23 (ey [] 0):=jO w _;have g:(w.alloc (jj a8 23)).heap.size=w.heap.size+1:=by simp
 obtain⟨c,j⟩:=J (w.alloc (jj a8 23));rw[<-j]at a f g⊢;have b:=Lf c;have h:jn w w (oR c):=a.trans (IK c _ Y);have i:cJ (oR c) w.heap.size 23 (ey [] 0):=f.below (IK c _ (jA _)) Y;rw[g]at b;obtain⟨C,k⟩:=J (yG c);rw[<-k]at b⊢;obtain⟨X,p⟩:=J (oR c);rw[<-p]at b h i⊢;have d:=O h;have m:=O i;clear a f g j k p h i q;refine(uc _ gR G _ b (z.below d (jA _)) (B.below d (jA _))).mono ?_;rintro e w' ⟨rfl,p⟩;have x:cJ w' w.heap.size 23 (ey [] 0):=m.below p m.lt';have h:=O x;have q:=ah d p;have i:((dM gR).map v8).toArray.size=32:=by rw[jW,j9,mM]
 have j:((dM gR).map v8).toArray.all (·.oneCell')=jf:=by
  rw[qf];intro u r;exact iT _ u (ak r)
 have s:dm gR l=dM (dM gR++l):=T;have t:=mM gR;generalize dM gR=a at i j s t⊢;have k:=O t;have P:=O s;generalize f:(a.map v8).toArray=g at i j⊢;have D:=O f;have E:=O j;clear f j p x b s t;have b:=zw w' a8 g T i E;clear m d
 go_upto_region 2 with fail
 clear b;have d:cJ (w'.alloc (jj g 23)) w'.heap.size 23 a:=by
  show _ =A (Obj.cells (a.map v8).toArray 23 (0,0));rw[D];exact jO w' _
 have j:jn w w (w'.alloc (jj g 23)):=q.alloc q.size _;have p:cJ (w'.alloc (jj g 23)) w.heap.size 23 (ey [] 0):=(jH _ _ _ h.lt').trans h;have Q:w.heap.size≠w'.heap.size:=by have:=h.lt';omega
 obtain⟨m,x⟩:=J w'.heap.size;rw[<-x]at d Q⊢;obtain⟨b,F⟩:=J (w'.alloc (jj g 23));rw[<-F]at d j p⊢;have R:=O d;have s:=O j;have t:=O p;clear d j p F x q h D E i;have d:bj b (jp (A ⟨m,0,jd⟩) 32 32) a:=by
  refine⟨_,32,by rw[k],by rw[k];exact jA _,λh=>(by cases h),λ_=>⟨m,0,T,λj i=>?_⟩⟩;rw[mz];exact R.cell i
 have h:bj b (jp n l.length o) l:=M.below s;have S:=O d;have U:=O h;clear d h
 go_wp2_with fail
 have d:jn b b (b.alloc (jj #[jp (A ⟨m,0,jd⟩) 32 32,jp n l.length o] 66)):=(jM _ _).alloc (jA _) _;have j:=O d;clear d;refine(uP b.heap.size 2 66 [jp (A ⟨m,0,jd⟩) 32 32,jp n l.length o] [a,l] T T (by have:=k.out;simp;omega) _ (jO b _) ?_ G).mono ?_
 ·intro i d
  match i,d with
  |0,_=>exact S.below j
  |1,_=>exact U.below j
 rintro e i ⟨D,rfl,d,q⟩;have x:[a,l].flatten=a++l:=by simp
 rw[x]at d;have h:jn b b i:=j.trans (q.mono ar);have E:bj i D (a++l):=bj.of_own d;have F:jn w w i:=s.trans (h.mono s.size);have p:=O F;have H:=O h;clear d q h F x
 go_wp2_with fail
 refine(uc D (a++l) (by have:=k.out;simp;omega) _ E (z.below p (jA _)) (B.below p (jA _))).mono ?_;rintro e h ⟨rfl,d⟩;have F:cJ h w.heap.size 23 (ey [] 0):=(t.below H t.lt').below d (by have:=t.lt';have:=H.size;omega);have K:=O F;have V:=ah p d;rw[<-P];have q:((dm gR l).map v8).toArray.size=32:=by rw[jW,j9,iN]
 have x:((dm gR l).map v8).toArray.all (·.oneCell')=jf:=by
  rw[qf];intro u r;exact iT _ u (ak r)
 clear d F E;generalize f:((dm gR l).map v8).toArray=d at q x⊢;have u:=O f;have r:=O q;have E:=O x;clear f q x
 go_wp2_with (refine qo T λ_ f=>r8 23 _ _ T w.heap.size d T T 23 _ K.out (by rw[r];rfl) (by rw[r];simp[ey]) E (f _ _ ?_))
 have f:(h.setRow w.heap.size d).heap[w.heap.size]?=A (jj d 23 (0,0)):=setRow_heap _ _ _ _ _ _ K.out;have q:jn w w (h.setRow w.heap.size d):=below_setRow V (jA _) _;generalize h.setRow w.heap.size d=w8 at f q⊢;have x:=O q;have F:=O f;clear f q
 go_wp2_with fail
 refine o8 (v:=jS d) ?_ T ?_
 ·exact r9 T _ _ _ 23 _ (0,0) _ T F qF T (by rw[r];rfl)
 exact⟨by rw[u],x⟩
inductive Val where
 |mk (k n:N) (s:ByteArray) (l:je Val)
def Val.k:Val->N| .mk k _ _ _=>k
def Val.n:Val->N| .mk _ n _ _=>n
def Val.s:Val->ByteArray| .mk _ _ s _=>s
def Val.l:Val->je Val| .mk _ _ _ l=>l
abbrev emS:ByteArray:=⟨#[]⟩
def co(s:ByteArray):LBy:=s.data.toList.map UInt8.toBitVec
def ofB(l:LBy):ByteArray:=⟨(l.map UInt8.ofBitVec).toArray⟩
theorem yS(l:LBy):co (ofB l)=l:=by
 have e:(UInt8.toBitVec∘UInt8.ofBitVec)=id:=funext λb=>rfl
 simp[co,ofB,e]
theorem kT(s:ByteArray):(co s).length=s.size:=by
 obtain⟨d⟩:=s;simp[co,ByteArray.size]
def nE:I->I->LBy
 |0,_=>[]
 |f+1,u=>if u<128 then [n0 8 u]else n0 8 (u%128+128)::nE f (u/128)
theorem Hv:∀(f g u:I),u<f->u<g->nE f u=nE g u
 |0,_,_,h,_=>qk h (xV _)
 |_,0,_,_,h=>qk h (xV _)
 |f+1,g+1,u,a,b=>by
  rw[nE,nE]
  by_cases h:u<128
  ·rw[pz h,pz h]
  rw[j5 h,j5 h,Hv f g (u/128) Y Y]
def da(u:I):LBy:=nE (u+1) u
def iE(n:N):I:=if 0<=n then 2*n.toNat else 2*(-(n+1)).toNat+1
mutual
def enc:Val->LBy
 | .mk k n s l=>if k=1 then 1#8::da (iE n)else if k=2 then 2#8::(da s.size++co s)else 3#8::(da l.length++encs l)
def encs:je Val->LBy
 |[]=>[]
 |x::xs=>enc x++encs xs
end
theorem zg(a b:je Val):encs (a++b)=encs a++encs b:=by
 induction a with
 |nil=>simp[encs]
 |cons x a c=>simp[encs,c]
def wfV:I->Val->Prop
 |f,.mk k n s l=>(k=1/\ -9223372036854775808<=n/\n<9223372036854775808/\s=emS/\l=[])\/(k=2/\n=0/\s.size<4611686018427387904/\l=[])\/
  (k=3/\n=0/\s=emS/\l.length<4611686018427387904/\match f with|0=>False|f+1=>∀x∈l,wfV f x)
theorem tA{u:I}(h:u<128):da u=[n0 8 u]:=by unfold da;rw[nE,pz h]
theorem II{u:I}(h:¬u<128):da u=n0 8 (u%128+128)::da (u/128):=by unfold da;rw[nE,j5 h,Hv u (u/128+1) (u/128) Y Y]
theorem zn(n:N)(a: -9223372036854775808<=n)(b:n<9223372036854775808):iE n<2^64:=by
 unfold iE;split<;>omega
theorem DW(x:Val):0<(enc x).length:=by
 obtain⟨k,n,s,l⟩:=x;rw[enc];split
 ·simp
 split<;>simp
theorem AT(l:je Val):l.length<=(encs l).length:=by
 induction l with
 |nil=>simp
 |cons x l a=>have:=DW x;simp[encs];omega
structure ap where
 k:N
 d:N
 p:N
 v:N
 c:N
structure Bx where
 node:N
 lev:N
 u:N
 body:LBy
structure Wl where
 dev:N
 u:N
 body:LBy
structure Cmt where
 folder:N
 epoch:N
 parent:LBy
 author:N
 chg:je ap
 path:je N
 box:je Bx
 wel:je Wl
 confirm:LBy
 r:N
 s:N
structure aL where
 dev:N
 since:N
 ver:N
structure Grp where
 folder:N
 epoch:N
 last:LBy
 mem:je aL
 tree:je (N×N)
def vI(n:N):Val:=.mk 1 n emS []
def vT(b:LBy):Val:=.mk 2 0 (ofB b) []
def vL(l:je Val):Val:=.mk 3 0 emS l
def ap.val(x:ap):Val:=vL [vI x.k,vI x.d,vI x.p,vI x.v,vI x.c]
def Bx.val(x:Bx):Val:=vL [vI x.node,vI x.lev,vI x.u,vT x.body]
def Wl.val(x:Wl):Val:=vL [vI x.dev,vI x.u,vT x.body]
def aR(c:Cmt):je Val:=
 [vI c.folder,vI c.epoch,vT c.parent,vI c.author,vL (c.chg.map ap.val),vL (c.path.map vI),vL (c.box.map Bx.val),vL (c.wel.map Wl.val),vT c.confirm,vI c.r,vI c.s]
def nP(s:ByteArray)(w:jc):jc:=Lib.bytesWorld w 5 s
def zJ(s:ByteArray)(w:jc):I:=grownCap w s.size 0 5
theorem Ia(s:ByteArray)(w:jc):(convert 9 66 (qG s)).run ji w=.ok (jp (A ⟨w,0,jd⟩) s.size (zJ s w)) (nP s w):=
 Lib.run_convert_string_bytes (P:=ji) w 9 66 5 s qB jR qT
theorem BZ(s:ByteArray)(w:jc):bj (nP s w) (jp (A ⟨w,0,jd⟩) s.size (zJ s w)) (co s):=by
 refine⟨_,_,by rw[kT],by rw[kT];exact grownCap_ge w s.size 0 5,(λh=>(by cases h)),λ_=>⟨w.heap.size,0,T,λj a=>?_⟩⟩;rw[kT]at a;have h:=Lib.bytesWorld_cell w 5 s j a;rw[mz];refine h.trans ?_
 congr 3
 have b:j<s.data.toList.length:=ak a;simp only[co,jU,qM];rw[rv b]
 rfl
theorem AW(s:ByteArray)(w:jc)(B:I)(a:B<=w.heap.size):jn B w (nP s w):=by
 refine⟨T,T,T,?_,λk b=>Lib.bytesWorld_at_old w 5 s k Y⟩;have:=Lib.bytesWorld_size w 5 s;unfold nP;omega
theorem sC(s:ByteArray)(X:s.size<=100000)(v:jh)(l:LBy)(hl:l.length<=900000)(w:jc)(z:bj w v l)(a:eP w)(b:gM w):
 ju ji 93 #[qG s,v] w λe w'=>e=js (jS ((dm (co s) l).map v8).toArray)/\jn w w w':=by
 have q:=Ia s;have P:=O z;obtain⟨n,o,rfl,-,-,-⟩:=z;have B:=O a;have D:=O b;clear a b
 go_enter func93,ntmps93
 go_wp2_with fail
 have d:jn w w (w.alloc (jj a8 23)):=(jM _ w).alloc (jA _) _;have f:cJ (w.alloc (jj a8 23)) w.heap.size 23 (ey [] 0):=jO w _;have g:(w.alloc (jj a8 23)).heap.size=w.heap.size+1:=by simp
 obtain⟨c,k⟩:=J (w.alloc (jj a8 23));rw[<-k]at d f g⊢;have a:=BZ s c;have h:jn w w (nP s c):=d.trans (AW s c _ Y);have i:cJ (nP s c) w.heap.size 23 (ey [] 0):=f.below (AW s c _ (jA _)) Y;rw[g]at a;have H:=kT s;obtain⟨C,m⟩:=J (zJ s c);rw[<-m]at a⊢;obtain⟨W2,p⟩:=J (nP s c);rw[<-p]at a h i⊢;have b:=O h;have j:=O i;clear d f g k m p h i q;have x:=a;clear a;refine(uc _ (co s) (by rw[kT];omega) _ x (B.below b (jA _)) (D.below b (jA _))).mono ?_;rintro e w' ⟨rfl,m⟩;have y:cJ w' w.heap.size 23 (ey [] 0):=j.below m j.lt';have d:=O y;have p:=ah b m;have h:((dM (co s)).map v8).toArray.size=32:=by rw[jW,j9,mM]
 have i:((dM (co s)).map v8).toArray.all (·.oneCell')=jf:=by
  rw[qf];intro u q;exact iT _ u (ak q)
 have r:dm (co s) l=dM (dM (co s)++l):=T;have t:=mM (co s);generalize dM (co s)=a at h i r t⊢;have k:=O t;have Q:=O r;generalize f:(a.map v8).toArray=g at h i⊢;have E:=O f;have F:=O i;clear f i m y x r t H;have i:=zw w' a8 g T h F;clear j b
 go_upto_region 2 with fail
 clear i;have i:cJ (w'.alloc (jj g 23)) w'.heap.size 23 a:=by
  show _ =A (Obj.cells (a.map v8).toArray 23 (0,0));rw[E];exact jO w' _
 have j:jn w w (w'.alloc (jj g 23)):=p.alloc p.size _;have r:cJ (w'.alloc (jj g 23)) w.heap.size 23 (ey [] 0):=(jH _ _ _ d.lt').trans d;have R:w.heap.size≠w'.heap.size:=by have:=d.lt';omega
 obtain⟨m,y⟩:=J w'.heap.size;rw[<-y]at i R⊢;obtain⟨b,H⟩:=J (w'.alloc (jj g 23));rw[<-H]at i j r⊢;have S:=O i;have t:=O j;have x:=O r;clear i j r H y p d E F h;have d:bj b (jp (A ⟨m,0,jd⟩) 32 32) a:=by
  refine⟨_,32,by rw[k],by rw[k];exact jA _,λh=>(by cases h),λ_=>⟨m,0,T,λj i=>?_⟩⟩;rw[mz];exact S.cell i
 have h:bj b (jp n l.length o) l:=P.below t;have U:=O d;have V:=O h;clear d h
 go_wp2_with fail
 have d:jn b b (b.alloc (jj #[jp (A ⟨m,0,jd⟩) 32 32,jp n l.length o] 66)):=(jM _ _).alloc (jA _) _;have j:=O d;clear d;refine(uP b.heap.size 2 66 [jp (A ⟨m,0,jd⟩) 32 32,jp n l.length o] [a,l] T T (by have:=k.out;simp;omega) _ (jO b _) ?_ G).mono ?_
 ·intro i d
  match i,d with
  |0,_=>exact U.below j
  |1,_=>exact V.below j
 rintro e i ⟨E,rfl,d,r⟩;have y:[a,l].flatten=a++l:=by simp
 rw[y]at d;have h:jn b b i:=j.trans (r.mono ar);have F:bj i E (a++l):=bj.of_own d;have H:jn w w i:=t.trans (h.mono t.size);have p:=O H;have K:=O h;clear d r h H y
 go_wp2_with fail
 refine(uc E (a++l) (by have:=k.out;simp;omega) _ F (B.below p (jA _)) (D.below p (jA _))).mono ?_;rintro e h ⟨rfl,d⟩;have H:cJ h w.heap.size 23 (ey [] 0):=(x.below K x.lt').below d (by have:=x.lt';have:=K.size;omega);have M:=O H;have W:=ah p d;rw[<-Q];have r:((dm (co s) l).map v8).toArray.size=32:=by rw[jW,j9,iN]
 have y:((dm (co s) l).map v8).toArray.all (·.oneCell')=jf:=by
  rw[qf];intro u q;exact iT _ u (ak q)
 clear d H F;generalize f:((dm (co s) l).map v8).toArray=d at r y⊢;have u:=O f;have q:=O r;have F:=O y;clear f r y
 go_wp2_with (refine qo T λ_ f=>r8 23 _ _ T w.heap.size d T T 23 _ M.out (by rw[q];rfl) (by rw[q];simp[ey]) F (f _ _ ?_))
 have f:(h.setRow w.heap.size d).heap[w.heap.size]?=A (jj d 23 (0,0)):=setRow_heap _ _ _ _ _ _ M.out;have r:jn w w (h.setRow w.heap.size d):=below_setRow W (jA _) _;generalize h.setRow w.heap.size d=w8 at f r⊢;have y:=O r;have H:=O f;clear f r
 go_wp2_with fail
 refine o8 (v:=jS d) ?_ T ?_
 ·exact r9 T _ _ _ 23 _ (0,0) _ T H qF T (by rw[q];rfl)
 exact⟨by rw[u],y⟩
section
open Go.RowKit Go.Shelf
attribute [local go_sem] Oper.semAt_some
def QS:I:=2305843009213688668
theorem tu:QS=2305843009213688668:=T
def od(n:I)(b:jl 8):I:=(n*256+b.toNat)%QS
def kA(l:LBy):I:=l.foldl od 0
theorem Tu(n:I)(b:jl 8):od n b<QS:=qP _ G
theorem Hi:∀(l:LBy) (n:I),n<QS->l.foldl od n<QS
 |[],n,h=>h
 |b::r,n,h=>Hi r _ (Tu n b)
theorem yr(l:LBy):kA l<QS:=Hi l 0 G
theorem Lv(l:LBy)(i:I)(b:jl 8)(h:l[i]?=A b):kA (l.take (i+1))=od (kA (l.take i)) b:=by
 obtain⟨a,e⟩:=o3.1 h;rw[xW a,e];simp[kA]
def o6(a l:LBy):I:=1+kA (dm a l)
theorem zL(a l:LBy):1<=o6 a l/\o6 a l<QN:=by
 have:=yr (dm a l);unfold o6;rw[tu]at this;unfold QN;omega
theorem Tm(a b:I)(f:a<2305843009213688668)(d:b<18446744073709551616)(w:jc):
 ju ji 189 #[ja jk a,ja jk b,ja jk 2305843009213688668] w λe w'=>
  ∃(q:N) (r:I),e=js (jL #[ja jk q,ja jk r])/\jm (r=(a*18446744073709551616+b)%QS)/\jn w w w':=by
 rcases qh a with rfl|h
 ·refine(DivS.div64_0 b d w).mono ?_
  rintro e w' ⟨q,rfl,c⟩;exact⟨q,_,T,O (by rw[sv,mz,tu]),c⟩
 refine(DivS.div64_1 a b h f d w).mono ?_;rintro e w' ⟨q,rfl,c⟩;exact⟨q,_,T,O (by rw[tu]),c⟩
def PC(a n:I)(w w':jc):Prop:=jD w' a 196 (ja jk n)/\w.heap.size<=w'.heap.size/\w'.os=w.os/\w'.tape=w.tape/\w'.output=w.output/\∀k,k<w.heap.size->k≠a->w'.heap[k]?=w.heap[k]?
theorem Tr(b:jl 8)(n c g:I)(w:jc)(t:n<QS)(a:jD w c 196 (ja jk n))(h:jD w g 196 (ja jk 2305843009213688668))(j:c≠g):
 ju ji 241 #[v8 b,jG (A ⟨c,0,jd⟩),jG (A ⟨g,0,jd⟩)] w λe w'=>(∃v,e=js v)/\PC c (od n b) w w':=by
 have u:=a.cell;have v:=h.cell;have l:=b.isLt;rw[tu]at t;have o:bits .or .u64 (jJ.wrap ((n:N)*256)) (b.toNat:N)=((n%72057594037927936*256+b.toNat:I):N):=by
  have d:jJ.wrap ((n:N)*256)=((n%72057594037927936*256:I):N):=by rw[p6];omega
  rw[d,r6 _ _ Y Y,show n%72057594037927936*256=(n%72057594037927936)<<<8 by rw[q8],<-Nat.shiftLeft_add_eq_or_of_lt (b:=b.toNat) (i:=8) l]
 have x:(n:N)/72057594037927936=((n/72057594037927936:I):N):=Y;obtain⟨p,k⟩:=J (n/72057594037927936);obtain⟨d,q⟩:∃d:I,d=n%72057594037927936*256+b.toNat:=⟨_,T⟩;rw[<-q]at o;rw[<-k]at x;have y:=O (Tm p d Y Y);have s:jm (p*18446744073709551616+d=n*256+b.toNat):=O Y;have F:=O j;have z:=O a;have r:v8 b=ja jF b.toNat:=T;rw[r];obtain⟨m,f⟩:=J b.toNat;rw[<-f]at l o s⊢;have B:=O f;have H:(0:N)<=m:=Y;clear k q j a h r f
 go_enter func241,ntmps241
 go_wp2_with fail
 refine(y _).mono ?_;rintro e j ⟨q,r,rfl,C,a⟩;have h:=z.out;have f:jD j c 196 (ja jk n):=(a.block _ h.lt).trans h;have D:=O a;have K:=f.cell;have M:=f.frozen;have E:=O f;clear a u v f h
 go_wp2
 refine xt (ob T _ _ _) T ?_;refine⟨⟨_,T⟩,?_⟩;have f:=E.set (ja jk r);have h:r=od n b:=by unfold od;rw[C,s,B]
 rw[h]at f⊢;have a:=D.out;refine⟨f,by rw[World.size_setCell];exact a.size,a.os,a.tape,a.output,λk u v=>?_⟩;exact(qe _ _ _ _ v).trans (a.block k u)
theorem RZ(args:jt jh)(w:jc):(qL 241 args).run ji w=.ok (.enter 241 args) w:=by rfl
theorem J1(a:jt jh)(k:I)(v:jh)(b:k<32)(c:a[k]?=A v)(W:jc):
 (Instr.index 23 (jS a) (ja jg (k:N))).run ji W=.ok v W:=by
 have d:=qF;have e:(0:N)<=(k:N)/\(k:N)<((32:I):N):=Y;unfold Instr.index;simp[asIntOf,xw d,part,c,b]
theorem Sx(d:LBy)(l:d.length=32)(w:jc):
 ju ji 187 #[jS (d.map v8).toArray,ja jk 2305843009213688668] w λe w'=>e=js (ja jk (kA d:I))/\jn w w w':=by
 have U:0<d.length:=Y;have j:(d.map v8).toArray.size=32:=by rw[jW,j9,l]
 have a:∀(k:I) (b:jl 8),d[k]?=A b->∀W:jc,(Instr.index 23 (jS (d.map v8).toArray) (ja jg (k:N))).run ji W=.ok (v8 b) W:=λk b g W=>by
  have u:=(o3.1 g).1;exact J1 _ k _ Y (by rw[List.getElem?_toArray,qM,g];rfl) W
 obtain⟨i,c⟩:=J ((d.map v8).toArray);rw[<-c]at a j⊢;have x:=O a;have n:=O l;clear c l a
 go_enter func187,ntmps187
 go_upto_region 2 with fail
 obtain⟨m,f⟩:=J (((w.alloc (jj i 23)).alloc (jj #[ja jk 2305843009213688668] 196)).alloc (jj #[ja jk 0] 196));obtain⟨a,c⟩:=J w.heap.size;have o:m.heap[a]?=A (jj i 23):=by
  have h:=jO w (jj i 23);rw[f,c];exact(jH _ _ _ (by simp;omega)).trans ((jH _ _ _ ar).trans h)
 have q:jD m (a+1) 196 (ja jk 2305843009213688668):=by
  have h:=Boxed.new (w.alloc (jj i 23)) 196 (ja jk 2305843009213688668);rw[j8]at h;rw[f,c];exact h.alloc _
 have r:jD m (a+1+1) 196 (ja jk (0:I)):=by
  have h:=Boxed.new ((w.alloc (jj i 23)).alloc (jj #[ja jk 2305843009213688668] 196)) 196 (ja jk (0:I));rw[j8,j8]at h;rw[f,c];exact h
 have h:jn a w m:=by rw[f,c];exact(((jM _ w).alloc (jA _) _).alloc ar _).alloc (by simp;omega) _
 have s:a+3<=m.heap.size:=by rw[f,c];simp
 rw[<-f,<-c];have y:=O c;have z:=O q;have B:=O r;have C:=O h;have D:=O s;clear f c q r h s;refine ql ?_;refine qn T 23 _ T a T 23 i (0,0) _ o qF T (by rw[j];rfl) ?_;clear o j
 go_wp2_with fail
 go_loopw [10] (λt wr=>∃k:I,t=ja jg k/\k<=32/\jm (jD wr (a+1+1) 196 (ja jk (kA (d.take k):I)))/\jm (jD wr (a+1) 196 (ja jk 2305843009213688668))/\jm (jn a w wr)) (λt _=>(32-jC t).toNat)
 case atStart=>exact⟨0,T,by omega,O B,z,C⟩
 obtain⟨k,rfl,u,f,h,o⟩:=hrel
 by_cases V:k<32
 ·have l:=aA ((k:N)<32)
  obtain⟨b,g⟩:∃b,d[k]?=A b:=by
   have:=n.out;exact⟨_,rv Y⟩
  have s:=x k b g;have c:=O (Tr b (kA (d.take k)) (a+1+1) (a+1) wr (yr _) f h Y);have t:=O (Lv d k b g);have E:rk (v8 b)=jf:=T;clear g;generalize v8 b=X at s c E;have q:=RZ
  go_wp2_with fail
  refine(c).mono ?_;rintro e w1 ⟨⟨v,rfl⟩,j⟩;have F:=O j;clear j c q
  go_wp2_with fail
  go_roundw
  case rel=>
   obtain⟨H,K,M,P,Q,q⟩:=F.out;have r:=h.out;have R:=r.lt;have c:=o.out;refine⟨k+1,T,by omega,O (by rw[t];exact H),O ((q _ R Y).trans r),O ⟨M.trans c.os,P.trans c.tape,Q.trans c.output,qb c.size K,λj S=>?_⟩⟩;exact(q j (by have:=c.size;have:=D.out;omega) Y).trans (c.block j S)
  case measure=>simp only[jC];omega
 have l:=az ((k:N)<32);obtain rfl:k=32:=Y;have c:=f.out;rw[List.take_of_length_le (by rw[n];omega)]at c;have t:=c.cell;have E:=c.frozen;have j:=O c;clear c f
 go_wp2_with fail
 obtain⟨f,c⟩:=J (wr.setCell ⟨a+1+1,0,jd⟩ (ja jk (kA d:I)));have q:jD f (a+1+1) 196 (ja jk (kA d:I)):=by rw[c];exact j.set _
 have r:jn a w f:=by rw[c];exact wt o.out (p:=⟨a+1+1,0,jd⟩) (by simp;omega) _
 rw[<-c];have s:=q.cell;refine o8 (v:=ja jk (kA d:I)) (by simp[results,results187,go_sem,s]) T ?_;exact⟨T,by rw[<-y];exact r⟩
end
section
open Go.RowKit Go.Shelf
attribute [local go_sem] Oper.semAt_some
theorem Dv:(ji.info? 3).map (λi=>(i.zero,i.size,i.bytes))=A (A (ja jg 0),1,8):=by kernel_rfl
theorem eR.later{h:jt jh}{encs:H->jt jh}{S c V:je H->Prop}(lb:eR P B h encs f b S c V w)(d:jn w w a):eR P B h encs f b S c V a:=
 λl e w' W i j k m n=>lb l e w' W (d.trans (i.mono d.size)) j k m n
theorem L8{gf:I}{lb:jt jh}(a:∀args w,(qL gf args).run ji w=.ok (.enter gf args) w){m:I->Prop}{q:I}{S H V:je N->Prop}{w:jc}
 (b:eR ji gf lb (λx:N=>#[ja jg x]) m q S H V w) (M:q<=w.heap.size) (r:∀k,m k->k<w.heap.size) (c:∀ys,V ys->ys.length<=1000000) (d:I) (o:d<=w.heap.size) (P:∀k,m k->d<=k):
 ju ji 236 #[jp jd 0 0,.func (.func gf) #[] lb] w λe w'=>∃v xs,e=js v/\S xs/\w'.ownsRow w 3 1 v xs.length (xs.map (jb .i64))/\jn d w w':=by
 obtain⟨Q,R,U,X,aa⟩:=qd Dv;have ad:=O b;have au:=O a;have HV:=O c;clear b a c;refine(qD (n:=0)).1 ?_;refine xu func236 T trivial ?_ T;simp only[ntmps236,jW,o1,qs,qt,qu,qv,qw,qx,qy,qa,qz]
 gi_wp2_with fail
 obtain⟨f,a⟩:=J (w.alloc (jj #[jp jd 0 0] 28));have bN:jD f w.heap.size 28 (jp jd 0 0):=by rw[a];exact Boxed.new w _ _
 have s:jn w w f:=by rw[a];exact(jM _ w).alloc (jA _) _
 have a1:w.heap.size+1<=f.heap.size:=by rw[a];simp
 rw[<-a];clear a;refine ru (n:=0) (gf:=gf) (lb:=lb) T au (ad.later s) Y (λ_=>rfl) (λk a=>by have:=r k a;omega)
  (λa Ψ W=>gP w.heap.size 28 w.heap.size 3 1 a.length (a.map (jb .i64)) (λ_=>True) Ψ W/\(jn d w W/\∀k,Ψ k->d<=k))
  (λ_ _ _ _=>False)
  ((ni f.heap.size w.heap.size 28 w.heap.size 3 1 (λa=>a.length) (λa:je N=>a.map (jb .i64)) (λ_ _=>True)).and (kK _ _ w o Y))
  (λ_=>fq _ _)
  ⟨⟨_,bN,λh=>by have:=r _ h;omega,xl _ _ _ _,by simp[xk],trivial⟩,s.mono o,P⟩
  (λx t _ _=>t={tmps:=#[jp jd 0 0,.func (.func gf) #[] lb,jG (A ⟨w,0,jd⟩),jB,jp jd 0 0,ja jg x,.func (.func gf) #[] lb,ja jg x,jB,jB,jB,jB,jB],defers:=[]}) (fq _ _)
  ?assign ?body ?done ?stop
 case assign=>
  intro l a x Ψ u K b _ i
  gi_wp2
  exact i _ _ (jM _ _) b T
 case body=>
  rintro l a x Ψ t u ⟨⟨v,b,y,g,z,-⟩,c,B⟩ rfl j K a2 a3;have ax:=HV _ j;rw[xm,List.length_singleton]at ax;have hc:=b.cell;have p:=O c;have a4:=c.size;clear c j
  gi_wp2_with (gi_at_builtin;refine wpListIn_append_own_at _ T _ _ 28 T w.heap.size 3 Q (ja jg 0) 1 8 xy R U X aa T G _ _ _ T (g.alloc _) ⟨u,0,jd⟩ 1 1 [ja jg x] T T (cell_one_new _ _ _) (by simp[rk]) (by unfold jY;omega) Y (by simp;omega) ?_;intro C w1 D E a5 F;obtain⟨g',a6,rfl⟩:=ownsRow_succ D;obtain⟨k,ay⟩:=sB (B0:=f.heap.size) b G g Y (jA _) y z K D E (by intro j hj;rw[hj]at F;rcases F with h|h;exact .inl h.symm;exact .inr (ak h));have j:jD w1 w.heap.size 28 v:=(b.alloc _).kept E (by have:=b.not_row (e:=3) G g;exact this);have ba:=j.cell;have bb:=j.frozen)
  obtain⟨C,j,b2,b3,b4,b5⟩:=ay;refine⟨⟨k.1,k.2.1.mono M,k.2.2⟩,⟨C,j,b2,by simpa using b3,b4,trivial⟩,p.trans (k.2.1.mono o),B⟩
 case done=>
  rintro D xs Ψ W k j ⟨⟨v,b,y,g,z,-⟩,c,B⟩ i;have hc:=b.cell;have p:=O c;clear c
  gi_wp2
  refine⟨by simp,.inl ⟨_,_,T,qE i,?_⟩⟩;exact⟨_,results_tmp T _ _ _,_,xs,T,j,ownsRow_putObj g _ i T,p.trans (iy Y)⟩
 intro D c a Ψ W _ _ h;exact h.elim
theorem DI{h:jt jh}(c:∀args w,(qL B args).run ji w=.ok (.enter B args) w){b:I->Prop}{d:I}{S l V:je N->Prop}{w:jc}
 (f:eR ji B h (λx:N=>#[ja jg x]) b d S l V w) (g:d<=w.heap.size) (lb:∀k,b k->k<w.heap.size) (i:∀ys,V ys->ys.length<=1000000) (a:I) (m:a<=w.heap.size) (j:∀k,b k->a<=k):
 ju ji 176 #[.func (.func B) #[] h] w λe w'=>∃v xs,e=js v/\S xs/\w'.ownsRow w 3 1 v xs.length (xs.map (jb .i64))/\jn a w w':=by
 have k:=O (L8 c f g lb i a m j);clear c f g lb i j
 go_enter func176,ntmps176
 go_wp2_with fail
 refine k.mono ?_;rintro e j ⟨v,xs,rfl,g,c,f⟩;have lb:=O c;have i:=O f;clear c f
 go_wp2
 go_ret;exact⟨v,xs,T,g,lb,i⟩
end
section
variable{b:I}
open Go Go.RowKit Go.Maps
def aO(x:N):Prop:=(Lit.int .i64 x).wf=jf
theorem aO.of{x:N}(h: -9223372036854775808<=x/\x<=9223372036854775807):aO x:=WalkArith.wf_i64 Y
structure EKind(P:jI)(e:jq)(α:Type) where
 ev:α->jh
 el:α->Lit
 z0:α
 ok:α->Prop
 reads:∀x,ok x->plainElem (H:=Unit) P e (ev x)=A (.lit (el x),[])
 inv:∀v z,plainElem (H:=Unit) P e v=A z->∃x,ok x/\v=ev x/\z=(.lit (el x),[])
 inj:∀x y,el x=el y->x=y
 ok0:ok z0
section
variable {P:jI} {k e:jq}
def dO(he:P.underlying e=A (.int .i64)):EKind P e N where
 ev:=.int .i64
 el:=.int .i64
 z0:=0
 ok:=aO
 reads:=λx h=>plainElem_int he h
 inv:=λv z h=>by obtain⟨a,b,c,d⟩:=plainElem_int_inv he h;exact⟨a,d,b,c⟩
 inj:=λx y h=>by cases h;rfl
 ok0:=by unfold aO;decide
theorem P3{P:jI}{e:jq}(he:P.underlying e=A .bool){v:jh}{z:o5 Unit×je r4}(h:plainElem P e v=A z):∃a,v=.bool a/\z=(.lit (.bool a),[]):=by
 unfold plainElem at h;rw[he]at h
 cases v<;>simp at h
 exact⟨_,T,h.symm⟩
def ie(he:P.underlying e=A .bool):EKind P e jw where
 ev:=.bool
 el:=.bool
 z0:=jz
 ok:=λ_=>True
 reads:=λx _=>plainElem_bool he x
 inv:=λv z h=>by obtain⟨a,b,c⟩:=P3 he h;exact⟨a,trivial,b,c⟩
 inj:=λx y h=>by cases h;rfl
 ok0:=trivial
variable {α:Type} {E:EKind P e α}
def aZ(E:EKind P e α)(k:jq)(w:jc)(b n:I)(f:N->jE α):Prop:=
 ∃D:o5 Unit,w.ownsMap P k (plainElem P e) b n D/\∀x,aO x->has D (.int .i64 x)=(f x).isSome/\∀v,f x=A v->∀z,D.atKey (.int .i64 x) z=.lit (E.el v)
theorem CY{x:N}(h:aO x):WideAt.IsKeyLit (.int .i64 x):=trivial
theorem aZ.made(E:EKind P e α)(k:jq)(w:jc):aZ E k (w.alloc (.map #[] 0)) w.heap.size 0 (λ_=>jd):=
 ⟨.map [],World.ownsMap_made _ _ _ _,λx _=>⟨rfl,λv h=>by cases h⟩⟩
theorem aZ.lt{w:jc}{d:I}{f:N->jE α}(h:aZ E k w b d f):b<w.heap.size:=by
 obtain⟨D,a,_⟩:=h;exact a.lt
theorem aZ.mono{w:jc}{n n':I}{f:N->jE α}(h:aZ E k w b n f)(a:n<=n'):aZ E k w b n' f:=by
 obtain⟨D,c,d⟩:=h;exact⟨D,c.mono a,d⟩
theorem aZ.kept{w w':jc}{n:I}{a:jE I}{f:N->jE α}(h:aZ E k w b n f)(c:w.grownBy w' a)(d:A b≠a):aZ E k w' b n f:=by
 obtain⟨D,e,g⟩:=h;exact⟨D,e.kept c d,g⟩
theorem aZ.of_block{w w':jc}{n:I}{f:N->jE α}(h:aZ E k w b n f)(a:w'.heap[b]?=w.heap[b]?):aZ E k w' b n f:=by
 obtain⟨D,⟨c,d,e,g⟩,i⟩:=h;exact⟨D,⟨c,d,a.trans e,g⟩,i⟩
theorem aZ.below{w w':jc}{n B:I}{f:N->jE α}(h:aZ E k w b n f)(a:jn B w w')(c:b<B):aZ E k w' b n f:=h.of_block (a.block b c)
theorem aZ.alloc{w:jc}{n:I}{f:N->jE α}(h:aZ E k w b n f)(o:Obj):aZ E k (w.alloc o) b n f:=h.kept (World.grownBy_alloc w o jd) ar
theorem aZ.setCell{w:jc}{n:I}{f:N->jE α}(h:aZ E k w b n f){a:jP}(c:b≠a.block)(u:jh):aZ E k (w.setCell a u) b n f:=by
 obtain⟨D,d,e⟩:=h;exact⟨D,d.setCell c u,e⟩
theorem aZ.congr{w:jc}{d:I}{f g:N->jE α}(h:aZ E k w b d f)(c:∀x,aO x->f x=g x):aZ E k w b d g:=by
 obtain⟨D,n,e⟩:=h;exact⟨D,n,λx a=>by rw[<-c x a];exact e x a⟩
theorem aZ.look{w:jc}{n:I}{f:N->jE α}(h:aZ E k w b n f)(i:P.underlying k=A (.int .i64)){t:jq}(l:P.underlying t=A (.map k e))(g:(zeroValue e).run P w=.ok (E.ev E.z0) w){x:N}(m:aO x)(ok:jw):
 (Instr.lookup t (.map (A b)) (.int .i64 x) ok).run P w=.ok (if ok then .tuple #[E.ev ((f x).getD E.z0),.bool (f x).isSome]else E.ev ((f x).getD E.z0)) w:=by
 obtain⟨D,o,r⟩:=h;obtain⟨j,s⟩:=r x m;have p:keyOf P k (.int .i64 x)=A (.int .i64 x):=keyOf_int_mk i m;have q:∀v a,plainElem (H:=Unit) P e v=A (D.atKey (.int .i64 x) (.lit (E.el E.z0)),a)->v=E.ev ((f x).getD E.z0):=λv a c=>by
  obtain⟨y,z,rfl,g⟩:=E.inv _ _ c;have d:=jv Prod.fst g;simp only at d
  cases hf:f x with
  |none=>
   rw[hf]at j;rw[atKey_of_not_has (ak j)]at d;have:E.z0=y:=E.inj _ _ (by injection d);simp[this]
  |some u=>
   rw[s u hf]at d;have:u=y:=E.inj _ _ (by injection d);simp[this]
 cases ok with
 |true=>
  obtain⟨v,a,d,c⟩:=o.look_ok (int_keyed i) l g (E.reads _ E.ok0) p;rw[d,q v a c,j]
  rfl
 |false=>
  obtain⟨v,a,d,c⟩:=o.lookup (int_keyed i) l g (E.reads _ E.ok0) p;rw[d,q v a c]
  rfl
theorem aZ.put{w:jc}{n:I}{f:N->jE α}(h:aZ E k w b n f)(i:P.underlying k=A (.int .i64)){t:jq}(o:P.underlying t=A (.map k e))(p:n<jY){x:N}(a:aO x){u:α}(q:E.ok u):
 ∃w',(Instr.mapUpdate t (.map (A b)) (.int .i64 x) (E.ev u)).run P w=.ok () w'/\aZ E k w' b (n+1) (λy=>if y=x then A u else f y)/\w.mapTurned w' b:=by
 obtain⟨D,c,j⟩:=h;have r:keyOf P k (.int .i64 x)=A (.int .i64 x):=keyOf_int_mk i a;obtain⟨w',s,B,C⟩:=c.store (int_keyed i) o p r (E.reads _ q);refine⟨w',s,⟨_,B,λy l=>?_⟩,C⟩;dsimp only
 by_cases d:y=x
 ·subst d
  rw[pz T];refine⟨by rw[has_put_same c.isMap (CY a)];rfl,λv g z=>?_⟩
  cases g
  exact atKey_put_same c.isMap (CY a) _ _
 rw[j5 d];have m:(Lit.int .i64 y)≠Lit.int .i64 x:=λh=>d (by injection h)
 refine⟨by rw[has_put_other m];exact(j y l).1,λv g z=>?_⟩;rw[atKey_put_other m];exact(j y l).2 v g z
theorem aZ.del{w:jc}{d:I}{f:N->jE α}(h:aZ E k w b d f)(n:P.underlying k=A (.int .i64)){t:jq}(m:P.underlying t=A (.map k e)){x:N}(o:aO x)(g:jq):
 ∃w',(Builtin.delete_ #[t,k] g #[.map (A b),.int .i64 x]).run P w=.ok (.tuple #[]) w'/\aZ E k w' b d (λy=>if y=x then jd else f y)/\w.mapTurned w' b:=by
 obtain⟨D,p,i⟩:=h;have q:keyOf P k (.int .i64 x)=A (.int .i64 x):=keyOf_int_mk n o;obtain⟨w',r,s,u⟩:=p.drop (int_keyed n) m q g;refine⟨w',r,⟨_,s,λy j=>?_⟩,u⟩;dsimp only
 by_cases a:y=x
 ·subst a
  rw[pz T];exact⟨has_del_same,λv c=>by cases c⟩
 rw[j5 a];have l:(Lit.int .i64 y)≠Lit.int .i64 x:=λh=>a (by injection h)
 refine⟨by rw[has_del_other l];exact(i y j).1,λv c z=>?_⟩;rw[atKey_del_other l];exact(i y j).2 v c z
variable {w:jc} {ops:jt jy} {rest:je jy} {o:jy} {a:Act} {Q:jT->Act->jc->Prop}
theorem vM{he:P.underlying e=A (.int .i64)}(c:o.guard=jd)(m x:nn)(t:jq)(d:o.op=Op.lookup t m x jf)(g:P.underlying k=A (.int .i64))(i:P.underlying t=A (.map k e))
 (j:(zeroValue e).run P w=.ok (.int .i64 0) w) (b n:I) (f:N->jE N) (l:a.eval m=.map (A b)) (h:aZ (dO he) k w b n f) (z:N) (p:a.eval x=.int .i64 z) (q:aO z)
 (r:oj P ops Q rest (a.put o.dst (.tuple #[.int .i64 ((f z).getD 0),.bool (f z).isSome])) w):oj P ops Q (o::rest) a w:=by
 refine qo c λv s=>?_
 have u:=h.look g i j q jf;unfold Oper.wp;simp[jV,d,l,p,u,Result.andThen];exact s _ _ r
theorem NR{he:P.underlying e=A (.int .i64)}(c:o.guard=jd)(m x:nn)(t:jq)(d:o.op=Op.lookup t m x jz)(g:P.underlying k=A (.int .i64))(i:P.underlying t=A (.map k e))
 (j:(zeroValue e).run P w=.ok (.int .i64 0) w) (b n:I) (f:N->jE N) (l:a.eval m=.map (A b)) (h:aZ (dO he) k w b n f) (z:N) (p:a.eval x=.int .i64 z) (q:aO z)
 (r:oj P ops Q rest (a.put o.dst (.int .i64 ((f z).getD 0))) w):oj P ops Q (o::rest) a w:=by
 refine qo c λv s=>?_
 have u:=h.look g i j q jz;unfold Oper.wp;simp[jV,d,l,p,u,Result.andThen];exact s _ _ r
theorem oD(c:o.guard=jd)(m x v:nn)(t:jq)(d:o.op=Op.mapUpdate t m x v)(g:P.underlying k=A (.int .i64))(i:P.underlying t=A (.map k e))
 (b n:I) (f:N->jE α) (j:a.eval m=.map (A b)) (h:aZ E k w b n f) (l:n<jY) (z:N) (p:a.eval x=.int .i64 z) (q:aO z) (u:α) (r:a.eval v=E.ev u) (s:E.ok u)
 (B:∀w',aZ E k w' b (n+1) (λy=>if y=z then A u else f y)->w.mapTurned w' b->oj P ops Q rest (a.put o.dst jB) w'):oj P ops Q (o::rest) a w:=by
 refine qo c λH y=>?_
 obtain⟨w',C,D,F⟩:=h.put g i l q s;unfold Oper.wp;simp[jV,d,j,p,r,C,Result.andThen];exact y _ _ (B w' D F)
theorem JC(c:o.guard=jd)(m x:nn)(t:jq)(d:o.op=Op.call {callee:=Callee.builtin Builtin.delete,args:=#[m,x],argTypes:=#[t,k]})(g:P.underlying k=A (.int .i64))(i:P.underlying t=A (.map k e))
 (b n:I) (f:N->jE α) (j:a.eval m=.map (A b)) (h:aZ E k w b n f) (z:N) (l:a.eval x=.int .i64 z) (p:aO z)
 (q:∀w',aZ E k w' b n (λy=>if y=z then jd else f y)->w.mapTurned w' b->oj P ops Q rest (a.put o.dst (.tuple #[])) w'):oj P ops Q (o::rest) a w:=by
 refine qo c λy r=>?_
 obtain⟨w',s,u,v⟩:=h.del g i p o.type;unfold Oper.wp;simp[jV,d,resolve,invoke,builtin,j,l,s,Result.andThen];exact r _ _ (q w' u v)
end
end
section
open Go.RowKit Go.Shelf Go.Maps Go.Sort
attribute [local go_sem] Oper.semAt_some
theorem NM{R:jh->jE (o5 H×je r4)}{i:I}{D:o5 H}{left:Lit->jw}{r:I}(h:w.ranges P t R B b i D left r)(c:a.heap[B]?=w.heap[B]?)(d:a.heap[b]?=w.heap[b]?):a.ranges P t R B b i D left r:=by
 obtain⟨e,f,g,n,j,l,m,o,p,q,s⟩:=h;exact⟨e,f,g,n,j,c.trans l,m,o,p,d.trans q,s⟩
theorem OM{R:jh->jE (o5 H×je r4)}{i:I}{D:o5 H}{left:Lit->jw}{r:I}(h:w.ranges P t R B b i D left r):B<w.heap.size/\b<w.heap.size:=by
 obtain⟨e,f,g,n,j,c,l,m,o,d,p⟩:=h;exact⟨(jQ.1 c).1,(jQ.1 d).1⟩
theorem bP.ofGrown{b:jE I}(h:w.grownBy a b)(c:∀k,b=A k->f k):bP B f w a:=
 ⟨h.os,h.tape,h.output,h.size,λk d Ψ=>.inl (h.block k d (λe=>Ψ (c k e.symm)))⟩
theorem EO(a:jE I)(w:jc):
 ju ji 134 #[.map a] w λe w'=>e=.returned (.func (.func 190) #[] #[.pointer (A ⟨w,0,jd⟩)])/\w'=w.alloc (.cells #[.map a] 150):=by
 go_enter func134,ntmps134
 go_wp2
 go_ret;exact⟨T,T⟩
def lg(f:N->jE N)(xs:je N):Prop:=xs.Nodup/\(∀x∈xs,aO x/\(f x).isSome=jf)/\∀x,aO x->(f x).isSome=jf->x∈xs
theorem N2(b d g o:I)(f:N->jE N)(w:jc)(u:aZ (dO jN) 3 w b d f)(z:jD w g 150 (.map (A b)))(M:b<o)(h2:g<o):
 eR ji 190 #[.pointer (A ⟨g,0,jd⟩)] (λx:N=>#[.int .i64 x]) (λ_=>False) o (lg f) (λ_=>True) (λys=>ys.length<=d) w:=by
 intro l q Jx W B a YW j P;have Q:jD W g 150 (.map (A b)):=(B.block g z.lt).trans z;obtain⟨D,C,e⟩:=u.of_block (B.block b u.lt);have c:=C;have R:=c.size_le;have E:=O e;clear e;have p:=Q.cell;refine(qD (n:=0)).1 ?_;refine r7 func190 T trivial ?_ T;simp only[ntmps190,jW,o1,qs,qt,qu,qv,qw,qx,qy,qa,qz]
 gi_wp2_with (first
  |(gi_at_range;refine wpListIn_range_own _ T _ 150 T 3 3 (int_keyed jN) qW _ b d _ T c ?_;intro w0 F i m)
  |gi_in)
 have S:=O a;have U:=O j;have V:q [] (λk=>k=W.heap.size) w0:=a [] _ _ W w0 P (bP.ofGrown i (λk e=>by cases e)) (λ_ h=>h.elim) (λk e=>.inr Y);have Wn:jm (W.heap.size+1=w0.heap.size):=O m.symm;have X:W.heap.size<w0.heap.size:=Y;have a3:=(OM F).1;have a4:∀k,k<W.heap.size->w0.heap[k]?=W.heap[k]?:=λk r=>i.block k r ar
 have a5:b<W.heap.size:=C.lt;clear a j m i p c
 gi_loopw [3] (λ_ wr=>∃(left:Lit->jw) (s:I) (a:je N),wr.ranges ji 3 (plainElem ji 3) b W.heap.size d D left s/\CollectedI D left a/\a.length+s<=d/\q a (λk=>k=W.heap.size) wr/\W.heap.size<wr.heap.size)
  (λ_ wr=>wr.rangeLeft b W.heap.size)
 case atStart=>
  exact⟨_,_,[],F,CollectedI.start D,by simpa using R,V,X⟩
 obtain⟨left,s,a,t,i,a6,H,ba⟩:=hrel
 gi_wp2_with (first
  |(gi_at_next;refine wpListIn_next_ranges _ T _ T 3 (int_keyed jN) (plainElem ji 3) encZ id (λkey kl r=>by obtain⟨x,c,_⟩:=Maps.keyOf_i64 jN r;exact⟨x,c⟩) (λv _ _=>⟨v,T⟩) b W.heap.size d _ _ _ T t ?_ ?_)
  |gi_in)
 ·intro YP aa
  gi_wp2
  refine xt (ob T _ _ _) T ?_;refine⟨⟨_,T⟩,.inl ⟨a,_,?_,H⟩⟩;refine⟨i.1,λx c=>?_,λx c hf=>?_⟩
  ·have h:=((i.2 x).1 c).1
   have m:aO x:=by
    obtain⟨es,rfl,ad⟩:=t.owns.keysOf;rw[has_eq,List.any_eq_true]at h;obtain⟨p,hp,hs⟩:=h;obtain⟨v,K⟩:=ad p hp;obtain⟨y,_,j,hl⟩:=Maps.keyOf_i64 jN K;have e:=WideAt.sameKey_eq hs;rw[e]at j;have:x=y:=by injection j
    rw[this];exact hl
   exact⟨m,by rw[<-(E x m).1];exact h⟩
  exact(i.2 x).2 ⟨by rw[(E x c).1];exact hf,aa _⟩
 intro x c kl yd yp m aa ad ZW K Ws au ax Yv p bb;obtain⟨x',ex,rfl,_⟩:=Maps.keyOf_i64 jN ad;obtain rfl:x=x':=encZ_inj ex;have ay:q a (λk=>k=W.heap.size) m:=S a _ _ wr m H (bP.ofGrown Yv (λk e=>by cases e;rfl)) (λ_ h=>h) (λ_ h=>.inl h);have bc:W.heap.size<m.heap.size:=Y;have a1:(a++[x]).length<=d:=by simp;omega
 obtain⟨fn,tmps,assign,body,j,v⟩:=U a x _ m ay (λk e=>by omega) a1;clear p
 gi_wp2
 refine⟨T,v.mono ?_⟩;rintro e W3 (⟨rfl,Zj,h,p⟩|⟨rfl,ZV,h,p⟩)
 ·have y:=NM au (h.block b M) (p _ T)
  have a2:W.heap.size<W3.heap.size:=by have:=h.size;omega
  clear p h v j
  gi_wp2
  go_roundw
  case rel=>exact⟨_,aa,a++[x],y,i.step ZW Ws,by simp;omega,Zj,a2⟩
  case measure=>rw[y.left_eq,t.left_eq];exact ax
 gi_wp2
 refine o8 (ob T _ _ _) T ?_;exact⟨⟨_,T⟩,.inr ⟨_,_,trivial,ZV⟩⟩
end
theorem eN{a:jP}{v:jh}(h:w.cell? a=A v):a.block<w.heap.size:=by
 unfold j4 at h
 cases hb:w.heap[a.block]? with
 |none=>simp[hb]at h
 |some o=>exact(jQ.1 hb).1
theorem cI{p:jP}{v:jh}(h:w.cell? p=A v)(a:w'.heap[p.block]?=w.heap[p.block]?):w'.cell? p=A v:=by
 rw[World.cell?_of_block a];exact h
def bJ(w:jc)(v:jh)(t:je (N×N)):Prop:=
 ∃p c,v=jp p t.length c/\t.length<=c/\(p=jd->t.length=0)/\(0<t.length->∃g o,p=A ⟨g,o,jd⟩/\
  ∀j,j<t.length->w.cell? ⟨g,o+j*2,jd⟩=A (ja jg (t.getD j (0,0)).1)/\w.cell? ⟨g,o+j*2+1,jd⟩=A (ja jg (t.getD j (0,0)).2))/\∀x∈t,aO x.1/\aO x.2
theorem bJ.below{v:jh}{t:je (N×N)}(h:bJ w v t)(d:jn w w w'):bJ w' v t:=by
 obtain⟨p,c,rfl,e,f,i,k⟩:=h;refine⟨p,c,T,e,f,λl=>?_,k⟩;obtain⟨g,o,rfl,m⟩:=i l;refine⟨g,o,T,λj n=>?_⟩;obtain⟨a,b⟩:=m j n;exact⟨cI a (d.block g (eN a)),cI b (d.block g (eN b))⟩
def bG(t:je (N×N))(x:N):jE N:=(t.find? (λy=>y.1==x)).map (·.2)
theorem G5(t:je (N×N))(a p x:N):bG (t++[(a,p)]) x=if(bG t a).isSome then bG t x else if x=a then A p else bG t x:=by
 unfold bG;rw[List.find?_append]
 cases hx:t.find? (λy=>y.1==x)with
 |none=>
  by_cases b:x=a
  ·subst b;simp[hx]
  have:(a==x)=jz:=by simpa using λh=>b h.symm
  simp[b,this,List.find?_cons]
 |some y=>
  by_cases b:x=a
  ·subst b;simp[hx]
  simp[b]
theorem pQ(w:jc):(zeroValue 3).run ji w=.ok (ja jg 0) w:=by kernel_rfl
theorem zk(t:je (N×N))(v:jh)(w:jc)(Q:bJ w v t)(R:t.length<=1000000):
 ju ji 130 #[jS #[v]] w λe w'=>∃b,e=js (.map (A b))/\w.heap.size<=b/\aZ (dO jN) 3 w' b t.length (bG t)/\jn w w w':=by
 obtain⟨p,c,rfl,S,l,i,j⟩:=Q;have g:=@run_makeMap ji
 go_enter func130,ntmps130
 go_wp2_with fail
 have a:jn w w ((w.alloc (jj #[jp p t.length c] 43)).alloc (.map #[] 0)):=((jM _ w).alloc (jA _) _).alloc ar _;have f:aZ (dO jN) 3 ((w.alloc (jj #[jp p t.length c] 43)).alloc (.map #[] 0)) (w.heap.size+1) 0 (λ_=>jd):=by
  have h:=aZ.made (dO jN) 3 (w.alloc (jj #[jp p t.length c] 43));rw[j8]at h;exact h
 obtain⟨W0,d⟩:=J ((w.alloc (jj #[jp p t.length c] 43)).alloc (.map #[] 0));rw[<-d]at a f⊢;clear d g;have U:=O a;have D:=O f;have V:=O i;have W:=O j;obtain⟨n,g⟩:=J t.length;have d:=O g;rw[<-g]at R S⊢;obtain⟨B,k⟩:=J (w.heap.size+1);rw[<-k]at D⊢;have aa:w.heap.size<B:=Y;clear a f i j g l k
 go_loopw [12] (λi wr=>∃k:I,i=ja jg k/\k<=n/\jm (aZ (dO jN) 3 wr B k (bG (t.take k)))/\jm (jn w w wr)) (λi _=>n-(jC i).toNat)
 case atStart=>exact⟨0,T,qj _,D,U⟩
 obtain⟨k,rfl,hk,F,m⟩:=hrel
 by_cases q:k<n
 ·have X:=aA ((k:N)<(n:N))
  have UY:=aA (k<n);obtain⟨g,o,rfl,u⟩:=V.out (by rw[<-d];omega);obtain⟨i,j⟩:=u k (by rw[<-d];exact q);have f:=m.out;have H:=cI i (f.block g (eN i));have K:=cI j (f.block g (eN j));obtain⟨e,he⟩:=J (t.getD k (0,0));rw[<-he]at H K;have x:e∈t:=by
   rw[he];simp only[jU];rw[rv (by rw[<-d];exact q)];simp
  obtain⟨l,r⟩:=W e x;obtain⟨a,s⟩:=e;dsimp only at H K l r;have HE:=O he;have z:=O l;have H2:=O r;clear f i j u he x l r;have M:=O (show t.take (k+1)=t.take k++[(a,s)] by
   rw[HE,xW (by rw[<-d];exact q)];simp only[jU];rw[rv (by rw[<-d];exact q)];rfl)
  have u:=O (F.alloc (jj #[ja jg a,ja jg s] 192));have C:=O (m.alloc m.size (jj #[ja jg a,ja jg s] 192))
  rcases xX (bG (t.take k) a)with i|⟨y,i⟩
  ·have l:=O i
   clear i
   go_wp2_with (first
    |(at_lookup;refine vM (he:=jN) T _ _ 150 T jN qW (pQ _) B k _ T u a T z ?_;rw[l])
    |(at_mapUpdate;refine oD (E:=dO jN) T _ _ _ 150 T jN qW B k _ T u (by unfold jY;omega) a T z s T H2 ?_;intro r x P))
   have V8:=O x;have f:=O (C.grown P.grown C.size (λj hj=>by cases hj;omega));clear x P;refine⟨⟨k+1,by go_num,by omega,O ?_,f⟩,by simp only[jC];omega⟩;refine V8.congr λx j=>?_
   rw[M,G5,l]
   rfl
  have l:=O i;clear i
  go_wp2_with (at_lookup;refine vM (he:=jN) T _ _ 150 T jN qW (pQ _) B k _ T u a T z ?_;rw[l])
  refine⟨⟨k+1,by go_num,by omega,O ?_,C⟩,by simp only[jC];omega⟩;refine(u.mono (Nat.le_succ _)).congr λx j=>?_
  rw[M,G5,l]
  rfl
 have X:=az ((k:N)<(n:N));have UY:=az (k<n);obtain rfl:k=n:=Y
 go_wp2
 go_ret;refine⟨B,T,by omega,?_,m⟩;have h:=F.out;rw[d,List.take_length]at h;exact h
section
variable {P:jI}
theorem FX{α:Type}{g:nn}{m:jt Tmp}{assign body:j0}{o:jT->Act->jc->Prop}{a:Act}{w:jc}{n:I}
 {gf:I} {lb:jt jh} (z:a.eval g=.func (.func gf) #[] lb) (B:∀args w,(qL gf args).run P w=.ok (.enter gf args) w)
 {encs:α->jt jh} {q:I->Prop} {u:I} {S y V:je α->Prop} (C:eR P gf lb encs q u S y V w)
 (E:u<=w.heap.size) (F:∀x,(encs x).size=m.size) (H:∀k,q k->k<w.heap.size)
 (e:je α->(I->Prop)->jc->Prop) (h:j0->je α->(I->Prop)->jc->Prop) (M:bZ w.heap.size e) (Q:∀c,bZ w.heap.size (h c)) (R:e [] q w)
 (i:α->Act->(I->Prop)->jc->Prop) (U:bZ w.heap.size (fun(s:α×Act) Ψ W=>i s.1 s.2 Ψ W))
 (s:∀(l:I) (d:je α) (x:α) (Ψ:I->Prop) (b:jc) (K:Act->jc->Prop),e d Ψ b->V (d++[x])->
  (∀f j,jn b b j->e d Ψ j->i x f Ψ j->K f j)->
  assign.wpIn (Fence.wide.inRound l) 0 P (Exit.then K (λ_ _ _=>False)) {tmps:=(m.zip (encs x)).foldl (λt (p,v)=>t.setIfInBounds p v) a.tmps,defers:=[]} b)
 (p:∀(l:I) (d:je α) (x:α) (Ψ:I->Prop) (f:Act) (b:jc),e d Ψ b->i x f Ψ b->V (d++[x])->(∀k,Ψ k->k<b.heap.size)->w.heap.size+2<=b.heap.size->(∃r,b.heap[l]?=A (.loop r))->
  body.wpIn (Fence.wide.inRound l) 0 P (yM w.heap.size u e h (d++[x]) Ψ b) f b)
 (t:∀(D:I) (xs:je α) (Ψ:I->Prop) (W:jc),D=w.heap.size->S xs->e xs Ψ W->W.heap[D]?=A (.deferred (A []))->o .normal {a with defers:={target:=.collected D,args:=#[]}::a.defers} W)
 (v:∀(D:I) (c:j0) (d:je α) (Ψ:I->Prop) (W:jc),D=w.heap.size->y d->h c d Ψ W->W.heap[D]?=A (.deferred (A []))->c.wpIn Fence.wide n P o {a with defers:={target:=.collected D,args:=#[]}::a.defers} W):
 (Code.rangeFunc g m assign body).wpIn Fence.wide n P o a w:=
 rL z B C.v E F H e h M (λ_ _ _ _=>trivial) Q R i U (λl d x Ψ b K j _ c _ k=>s l d x Ψ b K j c k) (λl d x Ψ f b j D c K W X h1 k=>p l d x Ψ f b j D (let⟨_,_,c⟩:=c;c) K W (let⟨r,k⟩:=k;⟨r,by rw[X];exact k⟩)) t v
end
section
open Go.RowKit Go.Shelf
attribute [local go_sem] Oper.semAt_some
def dh(f:N->jE N):I->I->je N
 |0,n=>if(f n).isSome then [(n:N)]else []
 |h+1,n=>if(f n).isSome then [(n:N)]else dh f h (2*n)++dh f h (2*n+1)
theorem S7{f:N->jE N}{h n:I}(a:(f n).isSome=jf):dh f h n=[(n:N)]:=by
 cases h<;>simp[dh,a]
theorem tg(f:N->jE N):∀h n,(dh f h n).length<=2^h
 |0,n=>by simp only[dh];split<;>simp
 |h+1,n=>by
  simp only[dh]
  split
  ·simp;exact xY
  have a:=tg f h (2*n);have b:=tg f h (2*n+1);rw[xm,qi];omega
theorem zG(a:jE I)(n:N)(w:jc):
 ju ji 177 #[.map a,ja jg n] w λe w'=>
  e=js (.func (.func 237) #[] #[jG (A ⟨w,0,jd⟩),jG (A ⟨w.heap.size+1,0,jd⟩)])/\w'=(w.alloc (jj #[.map a] 150)).alloc (jj #[ja jg n] 3):=by
 go_enter func177,ntmps177
 go_wp2
 go_ret;exact⟨T,T⟩
theorem Nu(a b:N)(w:jc):(Instr.index 205 (jS #[ja jg a,ja jg b]) (ja jg 0)).run ji w=.ok (ja jg a) w:=by kernel_rfl
theorem P7(a b:N)(w:jc):(Instr.index 205 (jS #[ja jg a,ja jg b]) (ja jg 1)).run ji w=.ok (ja jg b) w:=by kernel_rfl
theorem Ig(B0 b:I)(o:Obj)(j:b<B0):bZ B0 (fun(_:H) Ψ W=>W.heap[b]?=A o/\¬Ψ b):=by
 rintro s Ψ d k B ⟨a,e⟩ f l g;have i:=(jQ.1 a).1;have c:¬d b:=λh=>by rcases g _ h with h|h;exact e h;omega
 refine⟨?_,c⟩
 rcases f.block b i c with h|⟨h,_⟩
 ·exact h.trans a
 omega
theorem bZ.later{c:H->(I->Prop)->jc->Prop}(h:bZ B c)(n:B<=b):bZ b c:=λs Ψ d e B0 f a i j=>
 h s Ψ d e B0 f ⟨a.os,a.tape,a.output,a.size,λk l m=>by
  rcases a.block k l m with g|⟨g,g'⟩
  ·exact .inl g
  exact .inr ⟨by omega,g'⟩⟩ i j
theorem FQ{j:jq}{α:Type}(E:EKind P j α)(B0 b n:I)(f:N->jE α)(l:b<B0):bZ B0 (fun(_:H) Ψ W=>aZ E t W b n f/\¬Ψ b):=by
 rintro s Ψ d m B ⟨a,g⟩ i o e;have c:¬d b:=λh=>by rcases e _ h with h|h;exact g h;have:=a.lt;omega
 refine⟨a.of_block ?_,c⟩
 rcases i.block b a.lt c with h|⟨h,_⟩
 ·exact h
 omega
def lW{α:Type}(b:I)(c:je I)(d:je α)(e:je α->(I->Prop)->jc->Prop)(f:je α)(Ψ:I->Prop)(W:jc):Prop:=
 ∃a,e (d++f) a W/\(∀k,Ψ k->k<W.heap.size->a k)/\(∀k,a k->k<W.heap.size)/\(∀k,k=b\/k=b+1->k<W.heap.size->a k)/\∀k∈c,a k
theorem vX(n:je H){f:je H->(I->Prop)->jc->Prop}(o:bZ B f):bZ B (lW b m n f):=by
 rintro u Ψ v c B0 ⟨g,p,i,q,r,s⟩ l w j;have x:=l.size;refine⟨λk=>g k\/(c.heap.size<=k/\k<B0.heap.size),?_,λk a d=>?_,λk a=>?_,λk a d=>?_,λk a=>.inl (s k a)⟩
 ·refine o _ g _ c B0 p ⟨l.os,l.tape,l.output,l.size,λk a e=>?_⟩ (λk a=>.inl a) (λk a=>a.imp id (·.1))
  refine l.block k a (λt=>e (.inl ?_))
  rcases j k t with h|h
  ·exact i k h a
  omega
 ·by_cases e:k<c.heap.size
  ·rcases j k a with h|h
   ·exact .inl (i k h e)
   omega
  exact .inr ⟨by omega,d⟩
 ·rcases a with h|h
  ·have:=q k h;omega
  exact h.2
 by_cases e:k<c.heap.size
 ·exact .inl (r k a e)
 exact .inr ⟨by omega,d⟩
def nf{α:Type}(b:je I)(c:je α->(I->Prop)->jc->Prop)(d:je α)(W:jc):Prop:=
 ∃a,c d a W/\(∀k,a k->k<W.heap.size)/\∀k∈b,a k
theorem nf.wide{e:je H->(I->Prop)->jc->Prop}{i:je H}(h:nf m e i w)(n:bZ B e){Ψ:I->Prop}(f:bP B Ψ w a)(j:∀k,Ψ k->w.heap.size<=k)(s:a.heap.size<=b):lW b m i e [] Ψ a:=by
 obtain⟨l,o,p,q⟩:=h;have t:=f.size;refine⟨λk=>l k\/(w.heap.size<=k/\k<a.heap.size),?_,λk d g=>.inr ⟨j k d,g⟩,λk d=>?_,λk d g=>by omega,λk d=>.inl (q k d)⟩
 ·rw[wi]
  refine n _ l _ w a o ⟨f.os,f.tape,f.output,f.size,λk d u=>?_⟩ (λk d=>.inl d) (λk d=>d.imp id (·.1));exact f.block k d (λr=>by have:=j k r;omega)
 rcases d with h|h
 ·have:=p k h;omega
 exact h.2
theorem lW.own{b:je H->(I->Prop)->jc->Prop}{c xs:je H}(h:lW B m c b xs f w):nf m b (c++xs) w:=by
 obtain⟨e,Ψ,j,g,k,i⟩:=h;exact⟨e,Ψ,g,i⟩
theorem nf.turns{b:je H->(I->Prop)->jc->Prop}{e:je H}(h:nf m b e w)(i:bZ B b)(g:bP B (λ_=>False) w a):nf m b e a:=by
 obtain⟨j,l,d,n⟩:=h;have o:=g.size;exact⟨j,i.keep l ⟨g.os,g.tape,g.output,g.size,λk c _=>g.block k c (λh=>h)⟩,λk c=>by have:=d k c;omega,n⟩
def sN(f:N->jE N)(b e:I)(h n:I):Prop:=
 ∀(a c d:I) (w:jc),aZ (dO jN) 3 w b e f->b<d->jD w a 150 (.map (A b))->jD w c 3 (ja jg (n:N))->d<=w.heap.size->
  eR ji 237 #[jG (A ⟨a,0,jd⟩),jG (A ⟨c,0,jd⟩)] (λx:N=>#[ja jg x]) (λk=>k=a\/k=c) d (λxs=>xs=dh f h n) (λ_=>True) (λys=>ys<+:dh f h n) w
theorem Gl(f:N->jE N)(b R h n:I)(h1:512<=n*2^h)(h2:n*2^h<1024)(b1:1<=n)(b2:n<1024)(hz:n<512->∃u,h=u+1/\sN f b R u (2*n)/\sN f b R u (2*n+1))(ba:512<=n->h=0):sN f b R h n:=by
 intro g i n₀ w a bb c d ZR l UQ Jx W hW hJ YW hY h0;have bc:=a.of_block (hW.block b a.lt);have bd:jD W g 150 (.map (A b)):=(hW.block g c.lt).trans c;have bf:jD W i 3 (ja jg (n:N)):=(hW.block i d.lt).trans d;clear a c d;have cm:=(bd.alloc (jj #[.func (.yield l) #[] #[]] 131)).cell;have cn:=(bf.alloc (jj #[.func (.yield l) #[] #[]] 131)).cell;have hI:aO (n:N):=aO.of Y;have ZW:=(bc.alloc (jj #[.func (.yield l) #[] #[]] 131)).look jN qW (pQ _) hI jf
 rcases xX (f n)with hf|⟨p,hf⟩
 ·rw[hf]at ZW
  have bA:(Instr.lookup 150 (.map (A b)) (ja jg (n:N)) jf).run ji (W.alloc (jj #[.func (.yield l) #[] #[]] 131))=.ok (jL #[ja jg 0,.bool jz]) (W.alloc (jj #[.func (.yield l) #[] #[]] 131)):=ZW;clear ZW;have HF:=O hf;have HJ:=O hJ;have a1:=O YW;have HY:=O hY;have e:=O bc;have j:=O h0;clear hf hJ YW hY bc h0
  by_cases h5:512<=n
  ·have hd:=aA ((512:N)<=(n:N))
   have UY:=aA (512<=n);obtain rfl:=ba h5;have a:jm (dh f 0 n=[]):=O (by simp[dh,HF.out]);clear hz ba;refine(qD (n:=0)).1 ?_;refine r7 qX T trivial ?_ T;simp only[ntmps237,jW,o1,qs,qt,qu,qv,qw,qx,qy,qa,qz]
   gi_wp2
   refine o8 (ob T _ _ _) T ?_;rw[a];exact⟨⟨_,T⟩,.inl ⟨_,HJ.keep j (bP.alloc _ _ _ _)⟩⟩
  have hd:=az ((512:N)<=(n:N));have UY:=az (512<=n);obtain⟨u,rfl,q,r⟩:=hz Y;refine(qD (n:=0)).1 ?_;refine xu qX T trivial ?_ T;simp only[ntmps237,jW,o1,qs,qt,qu,qv,qw,qx,qy,qa,qz]
  gi_wp2_with fail
  have ZD:jm (dh f (u+1) n=dh f u (2*n)++dh f u (2*n+1)):=O (by simp[dh,HF.out]);have s:∀k,k<2->sN f b R u (2*n+k):=λk a=>by
   rcases(show k=0\/k=1 by omega)with rfl|rfl
   ·exact q
   exact r
  have VS:=O s;obtain⟨d,c⟩:=J (W.alloc (jj #[.func (.yield l) #[] #[]] 131));obtain⟨o,m⟩:=J W.heap.size;have M:jD d g 150 (.map (A b)):=by rw[c];exact bd.alloc _
  have S:jD d i 3 (ja jg (n:N)):=by rw[c];exact bf.alloc _
  have U:jD d o 131 (.func (.yield l) #[] #[]):=by rw[c,m];exact Boxed.new _ _ _
  have t:aZ (dO jN) 3 d b R f:=by rw[c];exact e.alloc _
  have b3:b<W.heap.size:=e.lt;have b4:w.heap.size<=W.heap.size:=hW.size;have b5:W.heap.size+1<=d.heap.size:=by rw[c];simp
  have v:nf [g,i,o] UQ [] d:=by
   have hs:=(bP.alloc W.heap.size (λk=>k=g\/k=i\/k=o) W (jj #[.func (.yield l) #[] #[]] 131));rw[<-c]at hs;refine⟨λk=>k=g\/k=i\/k=o,HJ _ _ _ W d j hs (λk a=>by rcases a with h|h<;>simp[h]) (λk a=>?_),λk a=>?_,by simp⟩
   ·rcases a with h|h|h
    ·exact .inl (.inl h)
    ·exact .inl (.inr h)
    exact .inr Y
   have x:=M.lt;have y:=S.lt;have z:=U.lt
   rcases a with rfl|rfl|rfl<;>assumption
  rw[<-c,<-m];have HO:=O v;have V:=O t;have b6:W.heap.size<=o:=Y;clear bA cm cn c q r s hz ba j e bd bf v t m;refine wpIn_loop_rounds 3 ?_;rw[roundsIn_succ];have cm:=M.cell;have bB:=λW=>Nu (2*(n:N)) (2*(n:N)+1) W
  gi_wp2_with fail
  refine⟨trivial,T,(callsIn_wide.2 (zG _ _ _)).mono ?_⟩;rintro e w' ⟨rfl,rfl⟩
  gi_wp2_with fail
  obtain⟨t,c⟩:=J ((d.alloc (jj #[.map (A b)] 150)).alloc (jj #[ja jg (2*(n:N))] 3));have bg:jD t d.heap.size 150 (.map (A b)):=by rw[c];exact(Boxed.new d _ _).alloc _
  have a2:((2*n:I):N)=2*(n:N):=by simp
  have bh:jD t (d.heap.size+1) 3 (ja jg ((2*n:I):N)):=by
   have h:=Boxed.new (d.alloc (jj #[.map (A b)] 150)) 3 (ja jg (2*(n:N)));rw[j8]at h;rw[a2,c];exact h
  have bC:d.heap.size+2=t.heap.size:=by rw[c];simp
  have a3:bP W.heap.size (λk=>k=d.heap.size\/k=d.heap.size+1) d t:=by
   rw[c];refine⟨T,T,T,by simp;omega,λk a _=>.inl ?_⟩;rw[jH _ _ _ (by simp;omega),jH _ _ _ a]
  have H:jn d d t:=by rw[c];exact((jM _ d).alloc (jA _) _).alloc ar _
  have bi:lW t.heap.size [g,i,o] [] UQ [] (λk=>k=d.heap.size\/k=d.heap.size+1) t:=HO.wide HJ a3 (by rintro k (rfl|rfl)<;>omega) (jA _);have bk:jD t g 150 (.map (A b)):=(H.block _ M.lt).trans M;have bl:jD t i 3 (ja jg (n:N)):=(H.block _ S.lt).trans S;have bm:jD t o 131 (.func (.yield l) #[] #[]):=(H.block _ U.lt).trans U;have ax:aZ (dO jN) 3 t b R f:=V.below H V.lt;have bI:=V.lt;have bK:=M.lt;have bM:=S.lt;have bN:=U.lt;have ay:W.heap.size<=t.heap.size:=Y;have a4:=VS 0 G d.heap.size (d.heap.size+1) n₀ t ax bb bg bh Y;have bn:=O a4;rw[<-c];clear a4 a2 c a3 H HO V;refine FX (n:=0) (gf:=237) (lb:=#[jG (A ⟨d,0,jd⟩),jG (A ⟨d.heap.size+1,0,jd⟩)]) T (enters_of qX af T)
   bn Y (λ_=>rfl) (by rintro k (rfl|rfl)<;>omega)
   (λv Ψ W=>lW t.heap.size [g,i,o] [] UQ v Ψ W/\(jD W g 150 (.map (A b))/\¬Ψ g)/\(jD W i 3 (ja jg (n:N))/\¬Ψ i)/\(jD W o 131 (.func (.yield l) #[] #[])/\¬Ψ o)/\(aZ (dO jN) 3 W b R f/\¬Ψ b))
   (λc v Ψ W=>c=.ret/\lW t.heap.size [g,i,o] [] Jx v Ψ W)
   ((vX [] (HJ.later ay)).and ((iQ _ _ _ (λ_=>_)).and ((iQ _ _ _ (λ_=>_)).and ((iQ _ _ _ (λ_=>_)).and (FQ _ _ _ _ _ Y)))))
   (λc=>(fq _ _).and (vX [] (a1.later ay)))
   ⟨bi,⟨bk,by omega⟩,⟨bl,by omega⟩,⟨bm,by omega⟩,⟨ax,by omega⟩⟩
   (λx a5 _ _=>a5={tmps:=#[.func (.yield l) #[] #[],jG (A ⟨g,0,jd⟩),jG (A ⟨i,0,jd⟩),jG (A ⟨o,0,jd⟩),ja jg 0,.bool jz,jB,ja jg (2*(n:N)),ja jg x,jL #[ja jg 0,.bool jz],.map (A b),ja jg (n:N),jL #[ja jg 0,.bool jz],ja jg 0,.bool jz,.bool jz,jB,jB,jB,ja jg (n:N),.bool jz,ja jg (n:N),ja jg (2*(n:N)),ja jg (n:N),ja jg (2*(n:N)),ja jg (2*(n:N)+1),jS #[ja jg (2*(n:N)),ja jg (2*(n:N)+1)],ja jg 0,.bool jf,ja jg (2*(n:N)),.map (A b),ja jg (2*(n:N)),.func (.func 237) #[] #[jG (A ⟨d,0,jd⟩),jG (A ⟨d.heap.size+1,0,jd⟩)],ja jg x,jB,jB,jB,jB,jB],defers:=[]}) (fq _ _)
   ?assign0 ?body0 ?done0 ?stop0
  case assign0=>
   intro l2 v x Ψ a6 K hI _ r
   gi_wp2
   exact r _ _ (jM _ _) hI T
  case body0=>
   rintro l2 v x Ψ a5 a6 ⟨aa,⟨q,nm⟩,⟨z,bo⟩,⟨m,ny⟩,⟨bp,nk⟩⟩ rfl hV YC bO br;obtain⟨y,B,g2,P,g4,Q⟩:=aa;obtain⟨fn,tmps,assign,body,hy,X⟩:=HY ([]++v) x y a6 B P (by rw[ZD];rw[qa];exact hV.trans (List.prefix_append _ _));have cy:=m.cell;have VM:=O g2;have YF:=O P;have C:=O g4;have E:=O Q;have WE:=O YC;clear B g2 P g4 Q YC hV br
   gi_wp2
   refine⟨T,RoundIn.mono X ?_⟩;rintro e W3 (⟨rfl,Zj,s,F⟩|⟨rfl,ZV,s,F⟩)
   ·have ad:=s.size
    have j:=O F;have UE:=O s;clear F s X hy cy
    gi_wp2
    refine⟨⟨⟨j _ (C _ (.inl T) Y),j _ (C _ (.inr T) Y)⟩,UE,λk a=>j k (VM k a (WE k a))⟩,
     ⟨y,by rw[<-qS];exact Zj,λk a _=>VM k a (WE k a),λk a=>qA (YF k a) ad,λk a _=>C k a Y,E⟩,
     ⟨(j _ (E g ar)).trans q,nm⟩,⟨(j _ (E i ar)).trans z,bo⟩,⟨(j _ (E o ar)).trans m,ny⟩,⟨bp.of_block (UE.block b bb),nk⟩⟩
   have ad:=s.size;have j:=O F;have UE:=O s;clear F s X hy cy
   gi_wp2
   refine⟨⟨⟨j _ (C _ (.inl T) Y),j _ (C _ (.inr T) Y)⟩,UE,λk a=>j k (VM k a (WE k a))⟩,T,
    ⟨y,by rw[<-qS];exact ZV,λk a _=>VM k a (WE k a),λk a=>qA (YF k a) ad,λk a _=>C k a Y,E⟩⟩
  case stop0=>
   rintro D c v Ψ m rfl -⟨rfl,bs⟩ r;obtain⟨y,B,-,-,-,-⟩:=bs
   gi_wp2
   refine⟨by simp,.inl ⟨_,_,T,qE r,?_⟩⟩;exact⟨_,ob T _ _ _,⟨_,T⟩,.inr ⟨_,y,trivial,a1.keep B (bP.putObj _ r T Y)⟩⟩
  rintro D xs Ψ m rfl rfl ⟨aa,⟨bu,nm⟩,⟨bv,bT⟩,⟨bw,ny⟩,⟨au,nk⟩⟩ r
  gi_wp2_with fail
  obtain⟨y,B,g2,P,g4,Q⟩:=aa;have b0:=(jQ.1 r).1;obtain⟨z,q⟩:=J t.heap.size;rw[<-q]at r b0⊢;have HO:jm (nf [g,i,o,z] UQ (dh f u (2*n)) m):=O ⟨y,by simpa using B,P,λk a=>by
   simp only[List.mem_cons,List.not_mem_nil,or_false]at a
   rcases a with h|h|h|h
   ·exact Q k (by simp[h])
   ·exact Q k (by simp[h])
   ·exact Q k (by simp[h])
   exact g4 k (.inl (h.trans q)) Y⟩
  have bq:=O r;have V:=O au;have b7:W.heap.size<=z:=Y;have b8:b<z:=Y;have Zl:W.heap.size<=m.heap.size:=Y;clear B g2 P g4 Q r M S U au nm bT ny nk bI bK bM bN bi bk bl bm ax bg bh bn bC ay q cm bB;have M:=bu;have S:=bv;have U:=bw;clear bu bv bw;rw[roundsIn_succ];have cm:=M.cell;have bB:=λW=>P7 (2*(n:N)) (2*(n:N)+1) W
  gi_wp2_with fail
  refine⟨trivial,T,(callsIn_wide.2 (zG _ _ _)).mono ?_⟩;rintro e w' ⟨rfl,rfl⟩
  gi_wp2_with fail
  obtain⟨q,au⟩:=J ((m.alloc (jj #[.map (A b)] 150)).alloc (jj #[ja jg (2*(n:N)+1)] 3));have bg:jD q m.heap.size 150 (.map (A b)):=by rw[au];exact(Boxed.new m _ _).alloc _
  have a2:((2*n+1:I):N)=2*(n:N)+1:=by simp
  have bh:jD q (m.heap.size+1) 3 (ja jg ((2*n+1:I):N)):=by
   have h:=Boxed.new (m.alloc (jj #[.map (A b)] 150)) 3 (ja jg (2*(n:N)+1));rw[j8]at h;rw[a2,au];exact h
  have bC:m.heap.size+2=q.heap.size:=by rw[au];simp
  have a3:bP W.heap.size (λk=>k=m.heap.size\/k=m.heap.size+1) m q:=by
   rw[au];refine⟨T,T,T,by simp;omega,λk a _=>.inl ?_⟩;rw[jH _ _ _ (by simp;omega),jH _ _ _ a]
  have H:jn m m q:=by rw[au];exact((jM _ m).alloc (jA _) _).alloc ar _
  have bi:lW q.heap.size [g,i,o,z] (dh f u (2*n)) UQ [] (λk=>k=m.heap.size\/k=m.heap.size+1) q:=HO.wide HJ a3 (by rintro k (rfl|rfl)<;>omega) (jA _);have bk:jD q g 150 (.map (A b)):=(H.block _ M.lt).trans M;have bl:jD q i 3 (ja jg (n:N)):=(H.block _ S.lt).trans S;have bm:jD q o 131 (.func (.yield l) #[] #[]):=(H.block _ U.lt).trans U;have ax:aZ (dO jN) 3 q b R f:=V.below H V.lt;have bI:=V.lt;have bK:=M.lt;have bM:=S.lt;have bN:=U.lt;have bT:q.heap[z]?=A (.deferred (A [])):=(H.block _ (jQ.1 bq).1).trans bq;have b9:=(jQ.1 bq).1;have ay:W.heap.size<=q.heap.size:=Y;have a4:=VS 1 G m.heap.size (m.heap.size+1) n₀ q ax bb bg bh Y;have bn:=O a4;rw[<-au];clear a4 a2 au a3 H HO V bq;refine FX (n:=0) (gf:=237) (lb:=#[jG (A ⟨m,0,jd⟩),jG (A ⟨m.heap.size+1,0,jd⟩)]) T (enters_of qX af T)
   bn Y (λ_=>rfl) (by rintro k (rfl|rfl)<;>omega)
   (λv Ψ W=>lW q.heap.size [g,i,o,z] (dh f u (2*n)) UQ v Ψ W/\(jD W g 150 (.map (A b))/\¬Ψ g)/\(jD W i 3 (ja jg (n:N))/\¬Ψ i)/\(jD W o 131 (.func (.yield l) #[] #[])/\¬Ψ o)/\(aZ (dO jN) 3 W b R f/\¬Ψ b)/\(W.heap[z]?=A (.deferred (A []))/\¬Ψ z))
   (λc v Ψ W=>c=.ret/\lW q.heap.size [g,i,o,z] (dh f u (2*n)) Jx v Ψ W/\(W.heap[z]?=A (.deferred (A []))/\¬Ψ z))
   ((vX (dh f u (2*n)) (HJ.later ay)).and ((iQ _ _ _ (λ_=>_)).and ((iQ _ _ _ (λ_=>_)).and ((iQ _ _ _ (λ_=>_)).and ((FQ _ _ _ _ _ Y).and (Ig _ _ _ Y))))))
   (λc=>(fq _ _).and ((vX (dh f u (2*n)) (a1.later ay)).and (Ig _ _ _ Y)))
   ⟨bi,⟨bk,by omega⟩,⟨bl,by omega⟩,⟨bm,by omega⟩,⟨ax,by omega⟩,bT,by omega⟩
   (λx a5 _ _=>a5={tmps:=#[.func (.yield l) #[] #[],jG (A ⟨g,0,jd⟩),jG (A ⟨i,0,jd⟩),jG (A ⟨o,0,jd⟩),ja jg 0,.bool jz,jB,ja jg (2*(n:N)+1),ja jg x,jL #[ja jg 0,.bool jz],.map (A b),ja jg (n:N),jL #[ja jg 0,.bool jz],ja jg 0,.bool jz,.bool jz,jB,jB,jB,ja jg (n:N),.bool jz,ja jg (n:N),ja jg (2*(n:N)),ja jg (n:N),ja jg (2*(n:N)),ja jg (2*(n:N)+1),jS #[ja jg (2*(n:N)),ja jg (2*(n:N)+1)],ja jg 1,.bool jf,ja jg (2*(n:N)+1),.map (A b),ja jg (2*(n:N)+1),.func (.func 237) #[] #[jG (A ⟨m,0,jd⟩),jG (A ⟨m.heap.size+1,0,jd⟩)],ja jg x,jB,jB,jB,jB,ja jg 1],defers:=[]}) (fq _ _)
   ?assign1 ?body1 ?done1 ?stop1
  case assign1=>
   intro l2 v x Ψ a6 K hI _ r
   gi_wp2
   exact r _ _ (jM _ _) hI T
  case body1=>
   rintro l2 v x Ψ a5 a6 ⟨aa,⟨au,nm⟩,⟨a2,bo⟩,⟨V,ny⟩,⟨bp,nk⟩,H,K⟩ rfl hV YC bO br;obtain⟨y,B,g2,P,g4,Q⟩:=aa;obtain⟨fn,tmps,assign,body,hy,X⟩:=HY ((dh f u (2*n))++v) x y a6 B P (by rw[ZD];rw[qS];exact(List.prefix_append_right_inj _).2 hV);have cy:=V.cell;have VM:=O g2;have YF:=O P;have C:=O g4;have E:=O Q;have WE:=O YC;clear B g2 P g4 Q YC hV br
   gi_wp2
   refine⟨T,RoundIn.mono X ?_⟩;rintro e W3 (⟨rfl,Zj,s,F⟩|⟨rfl,ZV,s,F⟩)
   ·have ad:=s.size
    have j:=O F;have UE:=O s;clear F s X hy cy
    gi_wp2
    refine⟨⟨⟨j _ (C _ (.inl T) Y),j _ (C _ (.inr T) Y)⟩,UE,λk a=>j k (VM k a (WE k a))⟩,
     ⟨y,by rw[<-qS];exact Zj,λk a _=>VM k a (WE k a),λk a=>qA (YF k a) ad,λk a _=>C k a Y,E⟩,
     ⟨(j _ (E g ar)).trans au,nm⟩,⟨(j _ (E i ar)).trans a2,bo⟩,⟨(j _ (E o ar)).trans V,ny⟩,⟨bp.of_block (UE.block b bb),nk⟩,(j _ (E z ar)).trans H,K⟩
   have ad:=s.size;have j:=O F;have UE:=O s;clear F s X hy cy
   gi_wp2
   refine⟨⟨⟨j _ (C _ (.inl T) Y),j _ (C _ (.inr T) Y)⟩,UE,λk a=>j k (VM k a (WE k a))⟩,T,
    ⟨⟨y,by rw[<-qS];exact ZV,λk a _=>VM k a (WE k a),λk a=>qA (YF k a) ad,λk a _=>C k a Y,E⟩,(j _ (E z ar)).trans H,K⟩⟩
  case stop1=>
   rintro D c v Ψ x rfl -⟨rfl,bs,H,K⟩ r;obtain⟨y,B,-,-,-,-⟩:=bs
   gi_wp2
   refine⟨by simp,.inl ⟨_,_,T,qE r,?_⟩⟩;have j:(x.putObj q.heap.size (.deferred jd)).heap[z]?=A (.deferred (A [])):=(ow Y).trans H;refine⟨by simp,.inl ⟨_,_,T,qE j,?_⟩⟩;exact⟨_,ob T _ _ _,⟨_,T⟩,.inr ⟨_,y,trivial,a1.keep (a1.keep B (bP.putObj _ r T Y)) (bP.putObj _ j T Y)⟩⟩
  rintro D xs Ψ x rfl rfl ⟨aa,⟨bu,nm⟩,⟨bv,bo⟩,⟨bw,ny⟩,⟨bp,nk⟩,H,K⟩ r;obtain⟨y,B,-,-,-,-⟩:=aa
  gi_wp2_with fail
  rw[roundsIn_succ]
  gi_wp2
  have j:(x.putObj q.heap.size (.deferred jd)).heap[z]?=A (.deferred (A [])):=(ow Y).trans H;refine⟨by simp,.inl ⟨_,_,T,qE r,?_⟩⟩;refine⟨by simp,.inl ⟨_,_,T,qE j,?_⟩⟩;exact⟨_,ob T _ _ _,⟨_,T⟩,.inl ⟨_,y,ZD.symm,HJ.keep (HJ.keep B (bP.putObj _ r T Y)) (bP.putObj _ j T Y)⟩⟩
 rw[hf]at ZW;have bA:(Instr.lookup 150 (.map (A b)) (ja jg (n:N)) jf).run ji (W.alloc (jj #[.func (.yield l) #[] #[]] 131))=.ok (jL #[ja jg p,.bool jf]) (W.alloc (jj #[.func (.yield l) #[] #[]] 131)):=ZW;have hs:=S7 (f:=f) (h:=h) (n:=n) (by rw[hf];rfl);have a:UQ [] (λk=>k=g\/k=i) (W.alloc (jj #[.func (.yield l) #[] #[]] 131)):=hJ.keep h0 (bP.alloc _ _ _ _);obtain⟨fn,tmps,assign,body,hy,X⟩:=hY [] (n:N) _ _ a (by rintro k (rfl|rfl);have:=bd.lt;simp;omega;have:=bf.lt;simp;omega) (by rw[hs];exact List.prefix_refl _);have c:=O hs;clear ZW hs hz ba bc hJ YW hY h0 hf a;refine(qD (n:=0)).1 ?_;refine r7 qX T trivial ?_ T;simp only[ntmps237,jW,o1,qs,qt,qu,qv,qw,qx,qy,qa,qz]
 gi_wp2
 refine⟨T,X.mono ?_⟩;rintro e W3 (⟨rfl,Zj,s,F⟩|⟨rfl,ZV,s,F⟩)
 ·gi_wp2
  refine o8 (ob T _ _ _) T ?_;exact⟨⟨_,T⟩,.inl ⟨_,_,c.symm,Zj⟩⟩
 gi_wp2
 refine o8 (ob T _ _ _) T ?_;exact⟨⟨_,T⟩,.inr ⟨_,_,trivial,ZV⟩⟩
theorem AS(f:N->jE N)(b d:I):∀h n,512<=n*2^h->n*2^h<1024->sN f b d h n
 |0,n,c,a=>Gl f b d 0 n c a Y Y (λh=>by omega) (λ_=>rfl)
 |h+1,n,c,a=>by
  rw[qi]at c a;have e:2*n*2^h=n*(2^h*2):=by rw[ms 2 n,sy,ms 2]
  have i:(2*n+1)*2^h=n*(2^h*2)+2^h:=by rw[Nat.add_mul,Nat.one_mul,e]
  have m:1<=2^h:=xY;have j:1<=n:=by
   rcases qh n with g|g
   ·rw[g]at c;omega
   exact g
  have o:2^h*2<=n*(2^h*2):=Nat.le_mul_of_pos_left _ j;have p:n<512:=by
   have:n*2<=n*(2^h*2):=Nat.mul_le_mul_left _ Y;omega
  have k:n*(2^h*2)+2^h<1024:=by
   have:n*(2^h*2)+(2^h*2)<=1024:=by
    have r:h<=9:=by
     rcases qI 9 h with g|g
     ·have:2^10<=2^h:=wq G g
      omega
     exact g
    have g:2^h*2∣1024:=by
     rw[<-qi,show 1024=2^10 by decide];exact Nat.pow_dvd_pow _ Y
    obtain⟨q,l⟩:=g;rw[l]at a⊢;have:n<q:=by
     rw[ms]at a;exact Nat.lt_of_mul_lt_mul_left a
    rw[<-Nat.succ_mul,ms (2^h*2) q];exact Nat.mul_le_mul_right _ this
   omega
  exact Gl f b d (h+1) n (by rw[qi];exact c) (by rw[qi];exact a) j Y
   (λ_=>⟨h,rfl,AS f b d h (2*n) (by rw[e];exact c) (by rw[e];exact a),AS f b d h (2*n+1) (by rw[i];omega) (by rw[i];exact k)⟩) (λh=>by omega)
end
section
open Go.Shelf
def Tryzx.lays189_ren:Go.Shelf.Ren:=⟨fun|189=>118|125=>89|257=>174|128=>143|129=>144|294=>227|295=>228|296=>229|297=>230|298=>231|299=>232|216=>233|300=>234|301=>235|328=>258|329=>192|330=>193|331=>259|332=>260|215=>90|343=>267|n=>n,fun|28=>28|3=>3|46=>161|0=>0|51=>223|53=>196|4=>4|183=>217|182=>216|131=>61|5=>5|9=>9|218=>284|222=>288|228=>333|229=>334|n=>n,fun|n=>n⟩
theorem Tryzx.lays189:Go.Proofs.Lays.n189 ji Tryzx.lays189_ren:={
 mixed:=by kernel_rfl
 f125:=func89.trans (jv A af)
 f128:=func143.trans (jv A af)
 f129:=func144.trans (jv A af)
 f189:=func118.trans (jv A af)
 f215:=func90.trans (jv A af)
 f216:=func233.trans (jv A af)
 f257:=func174.trans (jv A af)
 f294:=func227.trans (jv A af)
 f295:=func228.trans (jv A af)
 f296:=func229.trans (jv A af)
 f297:=func230.trans (jv A af)
 f298:=func231.trans (jv A af)
 f299:=func232.trans (jv A af)
 f300:=func234.trans (jv A af)
 f301:=func235.trans (jv A af)
 f328:=func258.trans (jv A af)
 f329:=func192.trans (jv A af)
 f330:=func193.trans (jv A af)
 f331:=func259.trans (jv A af)
 f332:=func260.trans (jv A af)
 f343:=func267.trans (jv A af)
 t0:=xq
 a0:=isAgg0
 z0:=sizeOf0
 v0:=zeroValue0
 t3:=jN
 a3:=isAgg3
 z3:=sizeOf3
 v3:=zeroValue3
 t4:=xr
 a4:=isAgg4
 z4:=sizeOf4
 v4:=zeroValue4
 t5:=qT
 a5:=isAgg5
 z5:=sizeOf5
 v5:=zeroValue5
 t9:=qB
 a9:=isAgg9
 z9:=sizeOf9
 v9:=zeroValue9
 t28:=xy
 a28:=isAgg28
 z28:=sizeOf28
 v28:=zeroValue28
 t46:=underlying161
 a46:=isAgg161
 z46:=sizeOf161
 v46:=zeroValue161
 t51:=underlying223
 a51:=isAgg223
 z51:=sizeOf223
 v51:=zeroValue223
 t53:=underlying196
 a53:=isAgg196
 z53:=sizeOf196
 v53:=zeroValue196
 t131:=underlying61
 a131:=isAgg61
 z131:=sizeOf61
 v131:=zeroValue61
 t182:=underlying216
 a182:=isAgg216
 z182:=sizeOf216
 v182:=zeroValue216
 t183:=underlying217
 a183:=isAgg217
 z183:=sizeOf217
 v183:=zeroValue217
 t218:=underlying284
 a218:=isAgg284
 z218:=sizeOf284
 v218:=zeroValue284
 t222:=underlying288
 a222:=isAgg288
 z222:=sizeOf288
 v222:=zeroValue288
 t228:=underlying333
 a228:=isAgg333
 z228:=sizeOf333
 v228:=zeroValue333
 t229:=underlying334
 a229:=isAgg334
 z229:=sizeOf334
 v229:=zeroValue334}
open Go.Sort Go.RowKit in
theorem Tryzx.slices_Sort_int(a off c:I)(b:je N)(w:jc)(d:Holds (jb .i64) w a off b.toArray)(f:a<w.heap.size)(g:b.length<4611686018427387904):
 ju ji 118 #[jp (A ⟨a,off,jd⟩) b.length c] w λe w'=>
  e=js (jL #[])/\∃n os,w'=grow (putRow (jb .i64) (Sort.ahead w n) a off (b.mergeSort λx y=>decide (x<=y)).toArray) os:=Any.slices_Sort_int Tryzx.lays189 a off c b w d f g
def Tryzx.laysNm220_ren:Go.Shelf.Ren:=⟨fun|20=>119|n=>n,fun|22=>28|3=>3|4=>4|0=>0|n=>n,fun|n=>n⟩
theorem Tryzx.laysNm220:Go.Proofs.Lays2.n20 ji Tryzx.laysNm220_ren:={
 mixed:=by kernel_rfl
 f20:=func119.trans (jv A af)
 t0:=xq
 a0:=isAgg0
 z0:=sizeOf0
 v0:=zeroValue0
 t3:=jN
 a3:=isAgg3
 z3:=sizeOf3
 v3:=zeroValue3
 t4:=xr
 a4:=isAgg4
 z4:=sizeOf4
 v4:=zeroValue4
 t22:=xy
 a22:=isAgg28
 z22:=sizeOf28
 v22:=zeroValue28
 i3:=by kernel_rfl}
open Go.RowKit Go.Lib Go.Sort in
open Go.RowKit Go.Lib Go.Sort in
theorem Tryzx.slices_Compact_int(b off c:I)(a:je N)(w:jc)(d:Holds (jb .i64) w b off a.toArray)(f:a.length<=9223372036854775807)(g:a.length<=c):
 ju ji 119 #[jp (A ⟨b,off,jd⟩) a.length c] w λe w'=>e=js (jp (A ⟨b,off,jd⟩) (Lib.compact a).length c)/\∃q,w'=putRow (jb .i64) (Sort.ahead w q) b off (Lib.compact a++nv (a.length-(Lib.compact a).length) 0).toArray:=Any.slices_Compact_int Tryzx.laysNm220 b off c a w d f g
open Go.RowKit Go.Lib Go.Sort in
theorem Tryzx.slices_Compact_int_empty(a:jE jP)(b:I)(w:jc):
 ju ji 119 #[jp a 0 b] w λe w'=>e=js (jp a 0 b)/\w'=w:=Any.slices_Compact_int_empty Tryzx.laysNm220 a b w
open Go.RowKit Go.Sort in
theorem Tryzx.slices_Sort_int_none(p:jE jP)(a:I)(w:jc):
 ju ji 118 #[jp p 0 a] w λe w'=>e=js (jL #[])/\w'=w:=Any.slices_Sort_int_none Tryzx.lays189 p a w
end
section
open Go
theorem Ge(d:jt N)(g:∀i j,i<=j->j<d.size->d[i]!<=d[j]!):∀m,m<=d.size->
 (Lib.compactUpTo d m).Pairwise (·<·)/\(∀x∈Lib.compactUpTo d m,∃j,j<m/\x=d[j]!)/\∀j,j<m->d[j]!∈Lib.compactUpTo d m
 |0,_=>by simp[Lib.compactUpTo]
 |m+1,r=>by
  obtain⟨o,i,k⟩:=Ge d g m Y;rw[Lib.compactUpTo_succ]
  by_cases f:m=0\/d[m]!≠d[m-1]!
  ·have l:Lib.keeps d m=jf:=by simp only[Lib.keeps,decide_eq_true_eq];exact f
   rw[l,pz T];refine⟨List.pairwise_append.2 ⟨o,by simp,λa q b p=>?_⟩,λx n=>?_,λj c=>?_⟩
   ·simp only[xZ]at p
    subst p;obtain⟨j,c,rfl⟩:=i a q
    rcases f with e|e
    ·omega
    have h:=g j (m-1) Y Y;have s:=g (m-1) m Y Y;omega
   ·rcases xn.1 n with h|h
    ·obtain⟨j,c,e⟩:=i x h
     exact⟨j,by omega,e⟩
    simp only[xZ]at h;exact⟨m,by omega,h⟩
   rcases xo (yl c)with h|rfl
   ·exact xn.2 (.inl (k j h))
   exact xn.2 (.inr ar)
  have l:Lib.keeps d m=jz:=by simp only[Lib.keeps,decide_eq_false_iff_not];exact f
  rw[l,j5 G,wi];refine⟨o,λx n=>?_,λj c=>?_⟩
  ·obtain⟨j,c,e⟩:=i x n
   exact⟨j,by omega,e⟩
  rcases xo (yl c)with h|rfl
  ·exact k j h
  have:j≠0:=λh=>f (.inl h)
  have e:d[j]! =d[j-1]! :=by
   rcases Classical.em (d[j]! =d[j-1]!)with h|h
   ·exact h
   exact qk (.inr h) f
  rw[e];exact k (j-1) Y
theorem GW(xs:je N)(h:xs.Pairwise (·<=·)):(Lib.compact xs).Pairwise (·<·)/\∀x,x∈Lib.compact xs↔x∈xs:=by
 have c:∀i j,i<=j->j<xs.toArray.size->xs.toArray[i]!<=xs.toArray[j]! :=λi j d a=>by
  have b:j<xs.length:=ak a
  rcases xo d with g|rfl
  ·have:=List.pairwise_iff_getElem.1 h i j Y b g
   simpa [getElem!_pos,show i<xs.length by omega,b]using this
  exact Int.le_refl _
 obtain⟨f,g,k⟩:=Ge xs.toArray c xs.length ar;refine⟨f,λx=>⟨λb=>?_,λb=>?_⟩⟩
 ·obtain⟨j,a,rfl⟩:=g x b
  simp[getElem!_pos,a]
 obtain⟨j,a,rfl⟩:=List.getElem_of_mem b;have:=k j a;have e:xs.toArray[j]! =xs[j]:=by simp[getElem!_pos,a]
 rw[e]at this;exact this
theorem AI{l m:je N}(c:l.Pairwise (·<·))(d:m.Pairwise (·<·))(h:∀x,x∈l↔x∈m):l=m:=by
 have e:l.Nodup:=c.imp (λh=>by omega);have f:m.Nodup:=d.imp (λh=>by omega);exact List.Perm.eq_of_pairwise (le:=(·<·)) (λa b _ _ g i=>by omega) c d ((List.perm_ext_iff_of_nodup e f).2 h)
theorem yj(l:je N):(l.mergeSort leI).Pairwise (·<=·):=by
 have d:∀a b c:N,leI a b=jf->leI b c=jf->leI a c=jf:=λa b c f g=>by simp only[leI,decide_eq_true_eq]at*;omega
 have e:∀a b:N,(leI a b||leI b a)=jf:=λa b=>by simp only[leI,qZ,decide_eq_true_eq];omega
 exact(List.pairwise_mergeSort d e l).imp (λh=>by simpa [leI]using h)
theorem uT(l:je N)(x:N):x∈l.mergeSort leI↔x∈l:=(List.mergeSort_perm l leI).mem_iff
def gD(t:je (N×N)):je N:=(t.filter λx=>decide (512<=x.1)&&decide (x.1<=1023)).map λx=>x.1-512
def cr(t:je (N×N)):je N:=Lib.compact ((gD t).mergeSort leI)
theorem pN(t:je (N×N)):(cr t).Pairwise (·<·):=(GW _ (yj _)).1
theorem oI(t:je (N×N))(d:N):d∈cr t↔0<=d/\d<512/\∃x∈t,x.1=512+d:=by
 unfold cr;rw[(GW _ (yj _)).2,uT];unfold gD;simp only[qc,List.mem_filter,jZ,decide_eq_true_eq]
 constructor
 ·rintro⟨x,⟨a,b,c⟩,rfl⟩
  exact⟨by omega,by omega,x,a,by omega⟩
 rintro⟨b,c,x,a,e⟩;exact⟨x,⟨a,by omega,by omega⟩,by omega⟩
end
end Go.Proofs.YtjbiancnijgmgaaGreatDoor
