/- Contracts of functions that the law reaches, part 4 of 7; no condition. -/
import Derived.Shelf.SlSortCmp.NoneTotal
import Derived.Test.YtdjkajodkjfjlaaGreatDoorZJ3
namespace Go.Proofs.YtdjkajodkjfjlaaGreatDoor
set_option maxHeartbeats 64000000
set_option maxRecDepth 100000
set_option linter.unusedVariables false
set_option linter.unusedSimpArgs false
set_option linter.unusedSectionVars false
open Go.RowKit
open Go.Proofs.Tryz
open _root_ renaming rfl->I,Int->N,Nat->ja,List->je,if_pos->ju,congrArg->jv,if_neg->jy,absurd->jB,Array->jD,Bool->jE,decide_eq_true->jO,Option->jR,of_decide_eq_true->oj
open Go.Value renaming int->T
open Go.IntKind renaming i64->A
open _root_.Option renaming some->jb,none->jc,getD_some->sq,map_some->wi,isSome_iff_exists->xT
open Go.RowKit renaming Hid->jd,Below->ji
open Go.Obj renaming cells->jf
open Go.Value renaming slice->jg,agg->jn,pointer->jz,tuple->jC
open Go renaming World->jh,Value->jl,Calls->jq,Boxed->jA,TypeId->jH,undef->jJ,Program->jU,setRow_other->jY,setRow_heap->jZ,Oper->j0,wpList_plain->j1,below_setRow->j7,maxLen->j8,Addr->lo,wp_region_noPanic->lw,wp_store_row->mb,bodyPost_ret->ms,wp_region_lit->mz,wpList_load_row->n0,callFunc->oi,grownBy_setCell'->qA,results_cell_row->rn,callsIn_wide->rv,results_none->sg,run_underlying->sh,callsIn_of_wp_marks->y5,wpListIn_append_own_at->zk
open _root_.Bool renaming false->jj,true->jm,eq_iff_iff->qi,eq_false_iff->q9,and_eq_true->ri
open Go.Proofs.Tryz renaming prog->jk
open Go.Value renaming int->jo,oneCell'->kw,bool->qg,agg->wq,ownBlock->xD
open Go.Ending renaming returned->jp
open Go.IntKind renaming u8->jr,u64->qM,wrap_u64->qN,wrap_u8->qP,i64->xU
open Go.Proofs renaming intOf->js
open _root_.Nat renaming le_refl->jt,zero_add->jI,le_trans->jP,zero_le->jS,min_eq_left->ol,lt_or_ge->pa,mul_le_mul_right->pz,mod_lt->qu,mul_comm->qw,lt_of_lt_of_le->qy,reduceAdd->qE,reduceSub->qF,lt_or_eq_of_le->qY,le_of_lt_succ->qZ,ne_of_lt->wt,le_of_lt->xa,add_zero->xg,eq_zero_or_pos->xr,two_pow_pos->xQ,div_div_eq_div_mul->xS,div_lt_of_lt_mul->xY,div_add_mod->xZ
open Go.World renaming alloc_heap_new->jw,size_alloc->jK,ownsRow_nil->kn,cell?->nz,setRow->qD,ownsRow_lit->xf
open _root_.List renaming length_map->jF,length_append->jM,mem_map->jN,getD->jQ,replicate->jT,take_of_length_le->jV,mem_cons->jW,mem_of_getElem?->jX,size_toArray->j3,getElem?_map->j5,length_take->j6,length_cons->j9,append_assoc->kl,append_nil->km,getElem?_eq_getElem->lm,map_append->lr,mem_append->nn,getElem?_eq_some_iff->oo,mem_singleton->p6,filter_append->qa,range->qb,nil_append->qc,cons_append->qd,getElem_of_mem->qe,any_eq_false->qf,filter_nil->qh,length_attach->qj,length_nil->qn,map_cons->qo,getElem_mem->qs,take_succ_eq_append_getElem->qt,mem_range->qv,mem_cons_self->qx,mergeSort_perm->qz,push_toArray->qI,append_toArray->qJ,zipIdx_cons->qK,mem_nil_iff->qQ,any_eq_true->qS,take_append_drop->qT,length_set->qU,filter_cons_of_neg->qV,drop_drop->qW,pairwise_map->qX,pairwise_cons->q4,getElem?_append_left->q5,getElem_map->q6,eq_nil_of_length_eq_zero->q8,take_set_of_le->sv,drop_set_of_lt->sx,drop_of_length_le->tb,length_singleton->tx,setIfInBounds_toArray->wx,map_set->w9,take_take->xd,length_filter_le->xh,mem_filter->xi,mem_cons_of_mem->xm,map_map->xo,pairwise_iff_getElem->xp,getElem?_append_right->xq,flatMap_cons->xt,range_succ->xA,take_zero->xC,flatten_cons->xE,drop_eq_getElem_cons->xF,getElem?_eq_none->xG,toList_toArray->xH,map_inj_right->xI,mem_flatMap->xJ,length_drop->xK,length_eq_zero_iff->xL,getElem?_drop->xM,filter_cons_of_pos->xN,getElem_set_self->xO,find?_eq_none->xP,map_congr_left->xV,getElem?_cons_succ->xW,nodup_append->xX,getElem?_take_of_lt->yl,map_mergeSort->yn,attach_map_subtype_val->ys
open Go.RowKit.Below renaming refl->jG,heap_alloc->qL,heap_setCell->xB
open _root_.Array renaming getElem?_eq_some_iff->jL,length_toList->o4,replicate_succ->qG,replicate_zero->qH
open Go.NoPanic renaming normal->j4
open Go.Proofs.Tryz renaming underlying3->mF,underlying64->ow,underlying24->qk,underlying30->ql,underlying29->qm,underlying4->qB,results10->qC,results60->sn,underlying23->xw,underlying198->xx,underlying246->xy,underlying5->xz
open _root_.BitVec renaming ofNat->mT,toNat_ofNat->qO
open _root_.Int renaming eq_ofNat_of_zero_le->m0,ofNat->uy,natCast_ediv->xj,toNat_of_nonneg->xR
variable{d o:N}{z:N×N}{p:N->jR N}{u:Type}{g:aI}{x:ak}{i:jD jl}{m:jH}{P:jU}{b e:ja}{D:ja->Prop}{t:je (N×N)}{r:je N}{c:je ak}{y:je jl}{f w w':jh}{j:jh->Prop}{a h vm vt:jl}
theorem EQ(init d:af)(q:init.length=32)(r:d.length=32)(w:jh)(x:gy w):
 jq jk 26 #[jn (init.map v8).toArray,jn (d.map v8).toArray] w λe w'=>e=jp (jn ((sF init d).map v8).toArray)/\ji w w w':=by
 obtain⟨c,y,z⟩:=Arr.mk' q;obtain⟨i,B,C⟩:=Arr.mk' r;obtain⟨A3,U,D⟩:=Arr.mk' (vO ⟨#[99,111,109,109,105,116]⟩ d);obtain⟨j,E,F⟩:=Arr.mk' (vx init d);rw[<-y,<-B,<-E];have V:=O q;have W:=O r;have H:=O z;have K:=O C;have M:=O D;have k:=O F;have P:=O x;obtain⟨Q,b⟩:=J ((((w.alloc (jf c 64)).alloc (jf i 64)).alloc (jf aT 64)));obtain⟨f,h⟩:=J w.heap.size;have a:=jw w (jf c 64);have l:=ai w (jf c 64);have g:=jw (w.alloc (jf c 64)) (jf i 64);have n:=ai (w.alloc (jf c 64)) (jf i 64);have o:=jw ((w.alloc (jf c 64)).alloc (jf i 64)) (jf aT 64);have p:=ai ((w.alloc (jf c 64)).alloc (jf i 64)) (jf aT 64);replace a:=az a n;replace a:=az a p;rw[jK]at g;replace g:=az g p;rw[jK,jK]at o;have s:=((l).trans (n.mono (l).size)).trans (p.mono ((l).trans (n.mono (l).size)).size);rw[<-b]at s;rw[<-b,<-h]at a;rw[<-b,<-h]at g;rw[<-b,<-h]at o;have t:=O a;have u:=O g;have R:=O o;have m:=O s;have X:=O b;have S:=O h;clear s b h a l g n o p;clear y z B C U D E F q r x
 go_enter func26,ntmps26
 go_upto_region 1 with fail
 rw[<-X,<-S];refine lw ?_;refine bY (λb=>b.heap[f]?=jb (jf c 64 (0,0))/\b.heap[f+1]?=jb (jf i 64 (0,0))) (.t 0 (.t 1 (.o 2 (.o 3 (.o 4 .done))))) ag ag ag G (λ_ _ _ _ h=>h) ⟨t,u⟩ ?_;obtain⟨x,g⟩:=J Q.drew;have a:=bz Q;rw[<-g]at a⊢;replace m:=ac m a;have o:=Z t a;have p:=Z u a;have q:=Z R a;clear a g t u R
 (refine aE (v:=jn c) I aj (λb g=>rN H.sz I I g.1) (L ?_))
 (refine aE (v:=jn i) I aj (λb g=>rN K.sz I I g.2) (L ?_))
 refine ar I (λr g=>?_);go_simp;have b:=Kc d W x (P.below m);rw[<-K.eq]at b;rw[<-M.eq]at b;refine b.mono ?_;clear b;rintro e t ⟨rfl,a⟩;have h:=ac m a;have l:=Z o a;have n:=Z p a;have s:=Z q a;clear m o p q;clear a;refine g _ _ ⟨l,n⟩ λ_=>?_
 clear g;refine L ?_;refine ar I (λr g=>?_);go_simp;have b:=Pi ⟨#[101,112,111,99,104]⟩ G init (pO ⟨#[99,111,109,109,105,116]⟩ d) V (vO _ _) t (P.dig.below h);rw[<-H.eq]at b;rw[<-M.eq]at b;rw[show((nW ⟨#[101,112,111,99,104]⟩ init (pO ⟨#[99,111,109,109,105,116]⟩ d)).map v8).toArray=j from k.eq.symm]at b;refine b.mono ?_;clear b;rintro e b ⟨rfl,a⟩;have q:=ac h a;have m:=Z l a;have o:=Z n a;have p:=Z s a;clear h l n s;clear a;refine g _ _ ⟨m,o⟩ λ_=>?_
 clear g;refine L ?_;refine ar I (λr g=>?_);rw[ju aj];refine mb 64 _ _ I (f+1+1) j I I 64 _ p.out (by rw[k.sz];rfl) (by rw[k.sz];rfl) k.one (g _ _ ⟨(jY _ _ _ _ Y).trans m,(jY _ _ _ _ Y).trans o⟩ λ_=>?_);clear g;have a:(b.setRow (f+1+1) j).heap[f+1+1]?=jb (jf j 64 (0,0)):=jZ _ _ _ _ _ _ p.out;have g:ji w w (b.setRow (f+1+1) j):=j7 q.out (by rw[S];omega) _;generalize b.setRow (f+1+1) j=z at a g⊢;have h:=O a;have l:=O g;clear a g;refine L ?_;refine j4 ?_
 go_wp2_with fail
 refine ms (rn I _ _ (f+1+1) 64 _ (0,0) _ I h ow I (by rw[k.sz];rfl)) I ?_;exact⟨I,l⟩
theorem QI(k:af)(c:k.length=32)(w:jh)(i:gy w):
 jq jk 44 #[jn (k.map v8).toArray] w λe w'=>e=jp (T A (mx k:ja))/\ji w w w':=by
 obtain⟨a,j,l⟩:=Arr.mk' c;rw[<-j];have o:=O c;have m:=O l;have p:=O i;obtain⟨q,b⟩:=J ((w.alloc (jf a 64)));obtain⟨r,d⟩:=J w.heap.size;have f:=jw w (jf a 64);have n:=ai w (jf a 64);have g:=n;rw[<-b]at g;rw[<-b,<-d]at f;have s:=O f;have h:=O g;have t:=O b;have u:=O d;clear g b d f n;clear j l c i
 go_enter func44,ntmps44
 go_upto_region 1 with fail
 rw[<-t,<-u];refine mz ?_;refine n0 I 64 _ I r I 64 a (0,0) _ s.out ow I (by rw[m.sz];rfl) ?_
 go_wp2_with fail
 have b:=Fc k o ⟨#[110,111,100,101]⟩ G q (p.dig.below h);rw[<-m.eq]at b;refine b.mono ?_;clear b;rintro e d ⟨rfl,b⟩;have c:=ac h b;clear b h
 go_wp2_with fail
 go_ret;exact⟨I,c⟩
theorem BZ(k:af):1<=mx k/\mx k<2305843009213688669:=yf _ _
def rM(k body:af):af:=cS (aX ⟨#[99,111,110,102,105,114,109]⟩) (k++body)
theorem ra(k b):(rM k b).length=32:=gX _ _
theorem Nk(k body:af)(j:k.length=32)(l:body.length=32)(w:jh)(x:gy w):
 jq jk 50 #[jn (k.map v8).toArray,jn (body.map v8).toArray] w λe w'=>e=jp (jn ((rM k body).map v8).toArray)/\ji w w w':=by
 obtain⟨d,y,z⟩:=Arr.mk' j;obtain⟨f,B,C⟩:=Arr.mk' l;obtain⟨g,D,E⟩:=Arr.mk' (ra k body);rw[<-y,<-B,<-D];have hk:=O j;have s:=O l;have P:=O z;have Q:=O C;have m:=O E;have F:=O x;obtain⟨H,c⟩:=J ((((w.alloc (jf d 64)).alloc (jf f 23)).alloc (jf aT 23)));obtain⟨b,i⟩:=J w.heap.size;have a:=jw w (jf d 64);have n:=ai w (jf d 64);have h:=jw (w.alloc (jf d 64)) (jf f 23);have o:=ai (w.alloc (jf d 64)) (jf f 23);have p:=jw ((w.alloc (jf d 64)).alloc (jf f 23)) (jf aT 23);have q:=ai ((w.alloc (jf d 64)).alloc (jf f 23)) (jf aT 23);replace a:=az a o;replace a:=az a q;rw[jK]at h;replace h:=az h q;rw[jK,jK]at p;have t:=((n).trans (o.mono (n).size)).trans (q.mono ((n).trans (o.mono (n).size)).size);rw[<-c]at t;rw[<-c,<-i]at a;rw[<-c,<-i]at h;rw[<-c,<-i]at p;have u:=O a;have v:=O h;have K:=O p;have r:=O t;have R:=O c;have M:=O i;clear t c i a n h o p q;clear y z B C D E j l x
 go_enter func50,ntmps50
 go_upto_region 1 with fail
 rw[<-R,<-M];refine lw ?_;refine bY (λa=>a.heap[b]?=jb (jf d 64 (0,0))/\a.heap[b+1]?=jb (jf f 23 (0,0))) (.t 0 (.t 1 (.o 2 (.o 3 (.o 4 (.o 5 .done)))))) ag ag ag G (λ_ _ _ _ h=>h) ⟨u,v⟩ ?_;obtain⟨n,c⟩:=J H.drew;have a:=bz H;rw[<-c]at a⊢;replace r:=ac r a;have t:=Z u a;have x:=Z v a;have y:=Z K a;clear a c u v K;iterate 2 refine aL ?_
 refine ar I (λq c=>?_);go_simp;have a:=ai n (jf #[jg (jb ⟨b,0,jc⟩) 32 32,jg (jb ⟨b+1,0,jc⟩) 32 32] 50);have i:=jw n (jf #[jg (jb ⟨b,0,jc⟩) 32 32,jg (jb ⟨b+1,0,jc⟩) 32 32] 50);obtain⟨B,u⟩:=J (n.alloc (jf #[jg (jb ⟨b,0,jc⟩) 32 32,jg (jb ⟨b+1,0,jc⟩) 32 32] 50));rw[<-u]at a i⊢;obtain⟨C,o⟩:=J n.heap.size;rw[<-o]at i⊢;have S:=O o;clear o;have v:=ac r a;have o:=Z t a;have p:=Z x a;have z:=Z y a;clear r t x y;have x:=O i;clear i u a;refine c _ _ ⟨o,p⟩ λ_=>?_
 clear c;refine L ?_;refine ar I (λq c=>?_);go_simp;have r:=te C 2 50 [jg (jb ⟨b,0,jc⟩) 32 32,jg (jb ⟨b+1,0,jc⟩) 32 32] [k,body] I I (by have j:=hk.out;have l:=s.out;simp;omega) B x (λi t=>by
  match i,t with
  |0,_=>exact yH (by have h:=o.out;rw[P.eq]at h;exact h) hk
  |1,_=>exact yH (by have h:=p.out;rw[Q.eq]at h;exact h) s) G
 refine r.mono ?_;clear r;rintro e y ⟨D,rfl,h,a⟩;have i:[k,body].flatten=k++body:=by simp
 rw[i]at h;have E:=O (aP.of_own h);clear h i;have h:=ac v a;have i:=Z o a;have r:=Z p a;have t:=Z z a;clear v o p z;clear a;refine c _ _ ⟨i,r⟩ λ_=>?_
 clear c;refine L ?_;refine ar I (λq c=>?_);go_simp;have o:=pJ ⟨#[99,111,110,102,105,114,109]⟩ G D (k++body) (by have j:=hk.out;have l:=s.out;simp;omega) y E (F.dig.below h).num (F.dig.below h).start;rw[show((cS (aX ⟨#[99,111,110,102,105,114,109]⟩) (k++body)).map v8).toArray=g from m.eq.symm]at o;refine o.mono ?_;clear o;rintro e o ⟨rfl,a⟩;have K:=ac h a;have p:=Z i a;have u:=Z r a;have v:=Z t a;clear h i r t;clear a;refine c _ _ ⟨p,u⟩ λ_=>?_
 clear c;refine L ?_;refine ar I (λq c=>?_);rw[ju aj];refine mb 23 _ _ I (b+1+1) g I I 23 _ v.out (by rw[m.sz];rfl) (by rw[m.sz];rfl) m.one (c _ _ ⟨(jY _ _ _ _ Y).trans p,(jY _ _ _ _ Y).trans u⟩ λ_=>?_);clear c;have a:(o.setRow (b+1+1) g).heap[b+1+1]?=jb (jf g 23 (0,0)):=jZ _ _ _ _ _ _ v.out;have c:ji w w (o.setRow (b+1+1) g):=j7 K.out (by rw[M];omega) _;generalize o.setRow (b+1+1) g=z at a c⊢;have h:=O a;have i:=O c;clear a c;refine L ?_;refine j4 ?_
 go_wp2_with fail
 refine ms (rn I _ _ (b+1+1) 23 _ (0,0) _ I h xw I (by rw[m.sz];rfl)) I ?_;exact⟨I,i⟩
section
attribute [local go_sem] Oper.semAt_some
section
variable {P:jU} {F:Fence} {nF:ja}
theorem DY{f:jD j0}{i:je j0}{o:j0}{a:Act}{w:jh}{j:Exit->Act->jh->Prop}(k:o.guard=jc)(b:jH)(x y:Operand)(d:o.op=.store b x y)
 (g:ja) (cells:jD jl) (l:a.eval x=jz (jb ⟨g,0,jc⟩)) (m:a.eval y=jn cells) (t:jH) (e:jD jl) (n:w.heap[g]?=jb (jf e t (0,0))) (p:(P.info? b).map (·.size)=jb cells.size)
 (q:e.size=cells.size) (r:cells.all (·.oneCell')=jm) (h:wpListIn F nF P f j i (a.put o.dst jJ) (w.setRow g cells)):wpListIn F nF P f j (o::i) a w:=by
 refine wpListIn_plain k λv s=>?_
 unfold Oper.wpIn;refine⟨by simp[Oper.about,d],?_⟩;rw[Oper.semAt_plain F _ _ (by rw[d];intro c u;cases u)];simp only[execOp,d,l,m,Instr.storeAt,Instr.sureAddr,Sem.run_bind,Sem.run_pure,Result.andThen_ok,run_storeVar_row w g t b e cells n p q r];exact s _ _ h
end
def BG(k:af):af:=fi k ⟨#[112,97,116,104]⟩ []
def cG(k:af):ja->af
 |0=>k
 |i+1=>BG (cG k i)
def fH(k:af)(n:ja):je (af):=(qb n).map (cG k)
theorem eQ(k:af)(h:k.length=32):∀i,(cG k i).length=32
 |0=>h
 |i+1=>by
  rw[cG,BG];exact oA _ _ _
theorem AK(k:af)(n:ja):fH k (n+1)=fH k n++[cG k n]:=by unfold fH;rw[xA,lr];rfl
theorem Ee(k:af)(n:ja):(fH k n).length=n:=by unfold fH;simp
def iA(k:af):jl:=jn (k.map v8).toArray
theorem bZ.setRow{B0:ja}{Ψ:ja->Prop}(a:jh)(g:ja)(cs:jD jl)(b:Ψ g):bZ B0 Ψ a (a.setRow g cs):=
 ⟨rfl,rfl,rfl,by simp[qD],λk _ hk=>.inl (jY _ _ _ _ (λe=>hk (e▸b)))⟩
theorem bZ.setCell{B0:ja}{Ψ:ja->Prop}(a:jh)(p:lo)(v:jl)(b:Ψ p.block):bZ B0 Ψ a (a.setCell p v):=
 ⟨rfl,rfl,rfl,by simp[World.setCell],λk _ hk=>.inl (xB _ _ _ _ (λe=>hk (e▸b)))⟩
theorem JG(c:af)(h:c.length=32)(w0:jh)(i:da w0)(b a:ja)(j:w0.heap.size<=b)(m:w0.heap.size<=a)(p:b≠a)(w:jh)(e:ji w0 w0 w)
 (f:jA w b 3 (T A (0:ja))) (g:w.heap[a]?=jb (jf (c.map v8).toArray 64 (0,0))):
 eo jk 151 #[jz (jb ⟨b,0,jc⟩),jz (jb ⟨a,0,jc⟩)] (λx:af=>#[iA x]) (λk=>k=b\/k=a) w0.heap.size (λxs=>xs=fH c 10) (λ_=>True) (λd=>d.length<=10/\∀x∈d,x.length=32) w:=by
 intro l Q Jx W d q r s t;have u:jA W b 3 (T A (0:ja)):=(d.block b f.lt).trans f;have v:=(d.block a (jL.1 g).1).trans g;have RG:=O (e.trans (d.mono e.size));have HT:=O i;have o:=O h;have R:=O p;have Vf:=O j;have ad:=O m;have al:=O u;have au:=O v;clear f g e i h p j m u v d;have B:=O q;have a1:=O r;have S:=O s;have U:=O t;clear q r s t;refine(rv (n:=0)).1 ?_;refine callsIn_of_wp func151 I trivial ?_ I;simp only[ntmps151,j3,j9,qn,qE,qF,qG,qH,qI,qJ,qc,qd]
 gi_wp2_with fail
 gi_loopw [4] (λs wr=>W.heap.size<=wr.heap.size/\∃i:ja,i<=10/\jd (jA wr b 3 (T A (i:ja)))/\jd (wr.heap[a]?=jb (jf ((cG c i).map v8).toArray 64 (0,0)))/\jd (ji w0 w0 wr)/\jd (Q (fH c i) (λk=>k=b\/k=a) wr))
  (λs wr=>(10-js ((wr.cell? ⟨b,0,jc⟩).getD jJ)).toNat)
 case atStart=>
  exact⟨jt _,0,by omega,al,au,RG,U⟩
 obtain⟨a3,i,hi,f,p,C,q⟩:=hrel;have D:=f.cell;have E:=O D
 by_cases h1:i<10
 ·have hd:=ao ((i:N)<=9)
  obtain⟨r,d,e⟩:=Arr.mk' (eQ c o i);obtain⟨s,m,h⟩:=Arr.mk' (eQ c o (i+1));have t:=S (fH c i) (cG c i) (λk=>k=b\/k=a) wr q (by
   rintro k (rfl|rfl)
   ·exact f.lt
   exact(jL.1 p).1) (by
   rw[<-AK];refine⟨by rw[Ee];omega,λx g=>?_⟩;unfold fH at g;obtain⟨j,-,rfl⟩:=jN.1 g;exact eQ c o j)
  rw[<-AK]at t;unfold iA at t;rw[<-d]at t;obtain⟨fn,tmps,assign,body,V,j⟩:=t;have u:jd (wr.heap[a]?=jb (jf r 64 (0,0))):=O (by rw[d];exact p);have F:=O e;have Vt:=O d;have g:=O h;have H:=O j;clear d e m h j
  gi_wp2_with (refine nD I 64 _ I a I 64 r (0,0) _ u.out ow I (by rw[F.sz];rfl) ?_)
  refine⟨I,H.mono ?_⟩;rintro e v (⟨rfl,X,h,j⟩|⟨rfl,YJ,h,j⟩)
  ·have m:jd (jA v b 3 (T A (i:ja))):=O ((j b (.inl I)).trans f)
   have K:=O ((j a (.inr I)).trans u);have M:=O (C.trans h);have y:=O X;have a4:wr.heap.size<=v.heap.size:=h.size;clear D f p C q u H X h j V
   gi_wp2_with (refine nD I 64 _ I a I 64 r (0,0) _ K.out ow I (by rw[F.sz];rfl) ?_)
   have d:=pM (cG c i) (eQ c o i) ⟨#[112,97,116,104]⟩ [] _ v (yt _) (ze _ G) (HT.below M);rw[<-Vt]at d;have z:((fi (cG c i) ⟨#[112,97,116,104]⟩ []).map v8).toArray=s:=g.eq.symm;rw[z]at d;refine⟨trivial,I,(callsIn_wide.2 d).mono ?_⟩;clear d z;rintro e z ⟨rfl,d⟩;have Zh:jd (jA z b 3 (T A (i:ja))):=O ((d.block _ m.lt).trans m);have P:=Z K d;have RO:=ac M d;have aa:=O (B.keep y (bZ.ofBelow d (λk hk _=>hk)));have a5:v.heap.size<=z.heap.size:=d.size;clear m K M y d
   gi_wp2_with (refine DY I 64 _ _ I a s I I 64 r P.out (by rw[g.sz];rfl) (by rw[F.sz,g.sz]) g.one ?_;obtain⟨m,d⟩:∃x,x=z.setRow a s:=⟨_,I⟩;have ba:=O d;rw[<-d];have M:jd (m.heap[a]?=jb (jf s 64 (0,0))):=O (by rw[d];exact jZ _ _ _ _ _ _ P.out);have K:jd (jA m b 3 (T A (i:ja))):=O (by rw[d];exact(jY _ _ _ _ R.out).trans Zh);have a2:jd (Q (fH c (i+1)) (λk=>k=b\/k=a) m):=O (by rw[d];exact B.keep aa (bZ.setRow _ _ _ (.inr I)));have RX:jd (ji w0 w0 m):=O (by rw[d];exact j7 RO ad _);have k:z.heap.size<=m.heap.size:=(by rw[d];simp[qD]);have bb:=K.cell;have bc:=K.frozen;clear d P Zh aa RO)
   have k:=K.set (T A ((i:N)+1));have x:=k.cell;refine⟨⟨by rw[World.size_setCell];omega,i+1,by omega,O k,O ?_,O ?_,O ?_⟩,?_⟩
   ·rw[<-g.eq];exact(xB _ _ _ _ (Ne.symm R.out)).trans M
   ·exact RX.setCell Vf.out _
   ·exact B.keep a2 (bZ.setCell _ _ _ (.inl I))
   rw[x,E];simp only[sq,js];omega
  have y:=O YJ;clear D f p C q u H YJ h j V E
  gi_wp2
  refine ms (sg I _ _ _) I ?_;exact⟨⟨_,I⟩,.inr ⟨_,_,trivial,y⟩⟩
 have hd:=ap ((i:N)<=9);obtain rfl:i=10:=Y;clear S U a1 E
 gi_wp2
 refine bodyPost_end (sg I _ _ _) I ?_;exact⟨⟨_,I⟩,.inl ⟨_,_,I,q⟩⟩
end
section
variable {P:jU}
theorem IM{α:Type}{g:Operand}{q:jD Tmp}{assign body:Code}{u:Exit->Act->jh->Prop}{a:Act}{w:jh}{n:ja}
 {gf:ja} {lb:jD jl} (C:a.eval g=.func (.func gf) #[] lb) (E:∀args w,(oi gf args).run P w=.ok (.enter gf args) w)
 {encs:α->jD jl} {y:ja->Prop} {n₀:ja} {S z V:je α->Prop} (F:eo P gf lb encs y n₀ S z V w)
 (H:n₀<=w.heap.size) (M:∀x,(encs x).size=q.size) (Q:∀k,y k->k<w.heap.size)
 (f:je α->(ja->Prop)->jh->Prop) (m:Code->je α->(ja->Prop)->jh->Prop) (R:b6 w.heap.size f) (U:∀c,b6 w.heap.size (m c)) (X:f [] y w)
 (o:α->Act->(ja->Prop)->jh->Prop) (aa:b6 w.heap.size (fun(s:α×Act) Ψ W=>o s.1 s.2 Ψ W))
 (ad:∀(l:ja) (d:je α) (x:α) (Ψ:ja->Prop) (b:jh) (K:Act->jh->Prop),f d Ψ b->V (d++[x])->(∀k,Ψ k->k<b.heap.size)->
  (∀i e,ji b b e->f d Ψ e->o x i Ψ e->K i e)->
  assign.wpIn (Fence.wide.inRound l) 0 P (Exit.then K (λ_ _ _=>False)) {tmps:=(q.zip (encs x)).foldl (λt (p,v)=>t.setIfInBounds p v) a.tmps,defers:=[]} b)
 (t:∀(l:ja) (d:je α) (x:α) (Ψ:ja->Prop) (i:Act) (b:jh),f d Ψ b->o x i Ψ b->V (d++[x])->(∀k,Ψ k->k<b.heap.size)->w.heap.size<=b.heap.size->(∃r,b.heap[l]?=jb (.loop r))->
  body.wpIn (Fence.wide.inRound l) 0 P (oU w.heap.size n₀ f m (d++[x]) Ψ b) i b)
 (v:∀(D:ja) (xs:je α) (Ψ:ja->Prop) (W:jh),w.heap.size<=D->S xs->f xs Ψ W->W.heap[D]?=jb (.deferred (jb []))->u .normal {a with defers:={target:=.collected D,args:=#[]}::a.defers} W)
 (al:∀(D:ja) (c:Code) (d:je α) (Ψ:ja->Prop) (W:jh),w.heap.size<=D->z d->m c d Ψ W->W.heap[D]?=jb (.deferred (jb []))->c.wpIn Fence.wide n P u {a with defers:={target:=.collected D,args:=#[]}::a.defers} W):
 (Code.rangeFunc g q assign body).wpIn Fence.wide n P u a w:=by
 refine zh C E F.v H M Q f m R (λ_ _ _ _=>trivial) U X o aa (λl d x Ψ b K p _ j s hk=>ad l d x Ψ b K p j s hk) (λl d x Ψ i b p K j s e h h1 k=>?_) (λD xs Ψ W e=>v D xs Ψ W (Nat.le_of_eq e.symm)) (λD c d Ψ W e=>al D c d Ψ W (Nat.le_of_eq e.symm));obtain⟨-,-,j⟩:=j;obtain⟨r,k⟩:=k;exact wpIn_mono (t l d x Ψ i b p K j s Y ⟨r,by rw[h];exact k⟩) λe a B h=>oU.two h1 k h
end
section
attribute [local go_sem] Oper.semAt_some
def fV(l:je (af)):je jl:=(l.map λk=>k.map v8).flatten
theorem Ni(l:je (af))(k:af):fV (l++[k])=fV l++k.map v8:=by unfold fV;simp
theorem GL:(jk.info? 64).map (λi=>(i.zero,i.size,i.bytes))=jb (jb (jn aT),32,32):=by kernel_rfl
def AF(f:af->ja->Act)(x:af)(a:Act)(Ψ:ja->Prop)(W:jh):Prop:=∃g,a=f x g/\W.heap[g]?=jb (jf (x.map v8).toArray 64 (0,0))/\¬Ψ g
theorem QV(B0:ja)(f:af->ja->Act):b6 B0 (fun(s:af×Act) Ψ W=>AF f s.1 s.2 Ψ W):=by
 rintro s Ψ c l B ⟨g,e,h,d⟩ i m j;have a:¬c g:=λk=>by
  rcases j _ k with b|b
  ·exact d b
  have:=(jL.1 h).1;omega
 exact⟨g,e,i.cells h a,a⟩
theorem AJ:∀(xs:je jl) (k:ja) (cs:jD jl),k+xs.length<=cs.size->((xs.zipIdx k).foldl (λcs x=>cs.setIfInBounds x.2 x.1) cs).toList=cs.toList.take k++xs++cs.toList.drop (k+xs.length)
 |[],k,cs,h=>by simp
 |x::xs,k,cs,h=>by
  rw[j9]at h;have hk:k<cs.toList.length:=by rw[o4];omega
  rw[qK,List.foldl_cons,AJ xs (k+1) _ (by rw[Array.size_setIfInBounds];omega),Array.toList_setIfInBounds,List.take_add_one,sv (jt _),List.getElem?_set_self hk,sx Y,j9];simp only[Option.toList_some,kl,List.singleton_append,qd,qc];rw[show k+1+xs.length=k+(xs.length+1) by omega]
theorem Hz(X a:jD jl)(h:X.size=32)(d:a.size=32):Array.foldl (λcs x=>cs.setIfInBounds x.2 x.1) a X.zipIdx 0 32=X:=by
 have b:X.zipIdx.size=32:=by simp[h]
 have c:Array.foldl (λcs (x:jl×ja)=>cs.setIfInBounds x.2 x.1) a X.zipIdx 0 32=X.zipIdx.toList.foldl (λcs x=>cs.setIfInBounds x.2 x.1) a:=by
  rw[Array.foldl_toList,b]
 rw[c,Array.toList_zipIdx]
 apply Array.ext'
 rw[AJ _ _ _ (by rw[o4];omega)];rw[o4,xC,qc,tb (by rw[o4];omega),km]
theorem OF{gf:ja}{lb:jD jl}(b:∀args w,(oi gf args).run jk w=.ok (.enter gf args) w){p:ja->Prop}{n₀:ja}{S Sp V:je (af)->Prop}{w:jh}
 (c:eo jk gf lb (λx:af=>#[iA x]) p n₀ S Sp V w) (V8:n₀<=w.heap.size) (H:∀k,p k->k<w.heap.size) (d:∀a,V a->a.length<=100000/\∀x∈a,x.length=32) (f:ja) (s:f<=w.heap.size) (ad:∀k,p k->f<=k):
 jq jk 150 #[jg jc 0 0,.func (.func gf) #[] lb] w λe w'=>∃v xs,e=jp v/\S xs/\w'.ownsRow w 64 32 v xs.length (fV xs)/\ji f w w':=by
 have al:=O c;have au:=O b;have z:=O d;clear c b d;refine(rv (n:=0)).1 ?_;refine y5 func150 I trivial ?_ I;simp only[ntmps150,j3,j9,qn,qE,qF,qG,qH,qI,qJ,qc,qd]
 gi_wp2_with fail
 obtain⟨d,a⟩:=J (w.alloc (jf #[jg jc 0 0] 74));have bN:jA d w.heap.size 74 (jg jc 0 0):=by rw[a];exact Boxed.new w _ _
 have M:ji w w d:=by rw[a];exact(jG _ w).alloc (jt _) _
 have bd:w.heap.size+1<=d.heap.size:=by rw[a];simp
 rw[<-a];clear a;have a1:lI w.heap.size 74 w.heap.size 64 32 ([]:je (af)).length (fV []) (λ_=>True) p d/\(ji f w d/\∀k,p k->f<=k):=by
  refine⟨⟨_,bN,λh=>by have:=H _ h;omega,kn _ _ _ _,by simp[xD],trivial⟩,M.mono s,ad⟩
 have P:b6 d.heap.size (fun(b:je (af)) Ψ W=>lI w.heap.size 74 w.heap.size 64 32 b.length (fV b) (λ_=>True) Ψ W):=pN (β:=je (af)) d.heap.size w.heap.size 74 w.heap.size 64 32 (λb=>b.length) (λb=>fV b) (λ_ _=>True);refine IM (n:=0) (gf:=gf) (lb:=lb) I au (al.later M) Y (λ_=>rfl) (λk hk=>by have:=H k hk;omega)
  (λb Ψ W=>lI w.heap.size 74 w.heap.size 64 32 b.length (fV b) (λ_=>True) Ψ W/\(ji f w W/\∀k,Ψ k->f<=k))
  (λ_ _ _ _=>False)
  (P.and (l9 _ _ w s Y))
  (λ_=>fA _ _)
  a1
  (AF (λx g=>{tmps:=#[jg jc 0 0,.func (.func gf) #[] lb,jz (jb ⟨w,0,jc⟩),jJ,jg jc 0 0,jz (jb ⟨g,0,jc⟩),.func (.func gf) #[] lb,iA x,jJ,jJ,jJ,jJ,jJ],defers:=[]})) (QV _ _)
  ?assign ?body ?done ?stop
 case assign=>
  intro l b x Ψ a K C q D t;have u:=(z _ q).2 x ax;obtain⟨X,c,j⟩:=Arr.mk' u;have i:iA x=jn X:=by unfold iA;rw[c]
  rw[i];have y:=O c;have m:=O j;clear c j i
  gi_wp2_with (refine DY I 64 _ _ I a.heap.size X I I 64 _ (jw a _) (by rw[m.sz];rfl) (by rw[m.sz];rfl) m.one ?_)
  obtain⟨r,o⟩:=J ((a.alloc (jf aT 64)).setRow a.heap.size X);rw[<-o];have E:r.heap[a.heap.size]?=jb (jf X 64 (0,0)):=by rw[o];exact jZ _ _ _ _ _ _ (jw a _)
  have B:ji a a r:=by rw[o];exact j7 (ai a _) (jt _) _
  refine t _ _ B ((P.and (l9 _ _ w s Y)).keep C (bZ.ofBelow B (λk hk _=>hk))) ⟨a.heap.size,?_,by rw[<-y];exact E,λh=>jB (D _ h) (Nat.lt_irrefl _)⟩;have i:iA x=jn X:=by unfold iA;rw[y]
  simp only[i]
  rfl
 case body=>
  rintro l b x Ψ bf a ⟨⟨v,k,K,r,Q,-⟩,o,R⟩ ⟨g,rfl,B,bg⟩ q Yo bh Zr;have a2:=(z _ q).1;have u:=(z _ q).2 x ax;rw[jM,tx]at a2;obtain⟨X,c,j⟩:=Arr.mk' u;have i:iA x=jn X:=by unfold iA;rw[c]
  simp only[i];rw[<-c]at B;have y:=O c;have m:=O j;have U:=k.cell;have C:=O o;have bk:=o.size;obtain⟨i0,hi,RQ,a3,a4⟩:=info_parts GL;have TE:=m.sz;have a5:=Hz X aT TE I;clear o q c j i
  gi_wp2_with (first|(refine nD I 64 _ I g I 64 X (0,0) _ B ow I (by rw[m.sz];rfl) ?_)|(gi_at_builtin;refine Hid.out ?_))
  refine O ?_;refine zk _ I _ _ 74 I w.heap.size 64 i0 (jn aT) 32 32 underlying74 hi RQ a3 a4 I G v _ _ I (r.alloc _) ⟨a,0,jc⟩ 1 1 (x.map v8) I (by rw[jF,u]) (Gd x a.heap.size (by rw[<-y];exact jw a _)) (sl _) (by unfold j8;omega) Y (by simp;omega) ?_;intro v' w1 D E ba F;obtain⟨g',bl,rfl⟩:=ownsRow_succ D;obtain⟨c,aa⟩:=pI (B0:=d.heap.size) k G r Y (jt _) K Q Yo D E (by intro j hj;rw[hj]at F;rcases F with h|h;exact .inl h.symm;exact .inr (ah h));have j:jA w1 w.heap.size 74 v:=(k.alloc _).kept E (by have:=k.not_row (e:=64) G r;exact this);have bm:=j.cell;have bn:=j.frozen;have bb:=O c;have bc:=O aa;clear c aa D E ba F U a5 TE B
  gi_wp2_with fail
  obtain⟨v',B,D,E,F,b5⟩:=bc.out;have c:=bb.out;refine⟨⟨c.1,c.2.1.mono V8,c.2.2⟩,⟨v',B,D,?_,F,trivial⟩,C.trans (c.2.1.mono s),R⟩;rw[Ni,jM,tx];exact E
 case done=>
  rintro D xs Ψ W c a ⟨⟨v,k,K,r,Q,-⟩,o,R⟩ t;have U:=k.cell;have C:=O o;clear o
  gi_wp2
  refine⟨by simp,.inl ⟨_,_,I,run_takeDeferred t,?_⟩⟩;exact⟨_,results_tmp I _ _ _,_,xs,I,a,ownsRow_putObj r _ t I,C.trans (iO Y)⟩
 intro D c b Ψ W _ _ h;exact h.elim
theorem OZ{i:jD jl}(c:∀args w,(oi b args).run jk w=.ok (.enter b args) w){gf:ja->Prop}{n₀:ja}{S j V:je (af)->Prop}{w:jh}
 (d:eo jk b i (λx:af=>#[iA x]) gf n₀ S j V w) (f:n₀<=w.heap.size) (g:∀k,gf k->k<w.heap.size) (h:∀a,V a->a.length<=100000/\∀x∈a,x.length=32) (a:ja) (l:a<=w.heap.size) (lb:∀k,gf k->a<=k):
 jq jk 75 #[.func (.func b) #[] i] w λe w'=>∃v xs,e=jp v/\S xs/\w'.ownsRow w 64 32 v xs.length (fV xs)/\ji a w w':=by
 have k:=O (OF c d f g h a l lb);clear c d f g h lb
 go_enter func75,ntmps75
 go_wp2_with fail
 refine k.mono ?_;rintro e lb ⟨v,xs,rfl,f,c,d⟩;have g:=O c;have h:=O d;clear c d
 go_wp2
 go_ret;exact⟨v,xs,I,f,g,h⟩
end
theorem I3(a:jD jl)(b:a.size=32)(w:jh):
 jq jk 76 #[jn a,T A 0] w λe w'=>e=jp (.func (.func 151) #[] #[jz (jb ⟨w.heap.size+1,0,jc⟩),jz (jb ⟨w,0,jc⟩)])/\w'=(w.alloc (jf a 64)).alloc (jf #[T A 0] 3):=by
 go_enter func76,ntmps76
 go_wp2
 go_ret;exact⟨I,I⟩
theorem Bu(k:af)(d:k.length=32)(w:jh)(j:da w):
 jq jk 22 #[jn (k.map v8).toArray] w λe w'=>∃v,e=jp v/\w'.ownsRow w 64 32 v 10 (fV (fH k 10))/\ji w w w':=by
 obtain⟨b,f,l⟩:=Arr.mk' d;rw[<-f];have s:=O d;have t:=O f;have m:=O l;have u:=O j;have c:=jw w (jf b 64);have g:=ai w (jf b 64);obtain⟨a,h⟩:=J (w.alloc (jf b 64));obtain⟨x,i⟩:=J w.heap.size;rw[<-h]at g c;rw[<-i]at c;have y:=O c;have n:=O g;have z:=O h;have B:=O i;clear f l d j c g h i
 go_enter func22,ntmps22
 go_upto_region 1 with fail
 rw[<-z,<-B];refine mz ?_;refine n0 I 64 _ I x I 64 b (0,0) _ y.out ow I (by rw[m.sz];rfl) ?_
 go_wp2_with fail
 refine(I3 b m.sz a).mono ?_;rintro e c ⟨rfl,d⟩;have i:c.heap[a.heap.size]?=jb (jf (k.map v8).toArray 64 (0,0)):=by
  rw[d,<-t];exact(qL _ _ _ ax).trans (jw a _)
 have l:jA c (a.heap.size+1) 3 (T A (0:ja)):=by
  have h:=Boxed.new (a.alloc (jf b 64)) 3 (T A (0:ja));rw[jK]at h;rw[d];exact h
 have o:ji a a c:=by rw[d];exact((jG _ a).alloc (jt _) _).alloc ax _
 have C:a.heap.size+1<c.heap.size:=by rw[d];simp
 have g:=n.size;have f:=n.trans (o.mono g);have p:=JG k s w u (a.heap.size+1) a.heap.size Y g Y c f l i;have q:=OZ (λ_ _=>rfl) p (bL f.size) (by rintro j (rfl|rfl)<;>omega) (λr h=>⟨by omega,h.2⟩) w.heap.size (bL f.size) (by rintro j (rfl|rfl)<;>omega);have j:=O q;have r:=O f;clear i l o C g f p q d
 go_wp2_with fail
 refine j.mono ?_;rintro e o ⟨v,xs,rfl,d,f,i⟩;have l:o.ownsRow w 64 32 v 10 (fV (fH k 10)):=by
  have h:=f;rw[d,Ee]at h;refine⟨h.1,?_⟩
  rcases h.2 with p|⟨g,q,C,e,D,E⟩
  ·exact .inl p
  exact .inr ⟨g,q,C,e,jP r.size D,E⟩
 have g:=O l;have h:=O (r.trans i);clear f l i j d
 go_wp2_with fail
 go_ret;exact⟨_,I,g,h⟩
def beK(n:ja):ja->af
 |0=>[]
 |k+1=>beK n k++[mT 8 (n/2^(56-8*k))]
def be8(n:ja):af:=beK n 8
theorem ui(n k:ja):(beK n k).length=k:=by induction k with
 |zero=>rfl
 |succ k a=>simp[beK,a]
def cW(l:je ja):af:=(l.map be8).flatten
theorem rG(l:je ja):(cW l).length=8*l.length:=by
 unfold cW
 induction l with
 |nil=>rfl
 |cons a l b=>
  have h:(be8 a).length=8:=ui a 8;rw[qo,xE,jM,b,j9,h];omega
theorem tL(l:je ja)(a:ja):cW (l++[a])=cW l++be8 a:=by unfold cW;simp
def m6(a:af)(msg:af)(nums:je ja):ja:=nS a (cW nums++msg)
theorem zc(s:ByteArray)(d:s.size<=1000)(msg:af)(vm:jl)(f:msg.length<=100000)(nums:je ja)(E:jl)(F:nums.length<=1000)(g:∀x∈nums,x<9223372036854775808)(w:jh)(t:aP w vm msg)(hn:cV w E (nums.map uy))(h:da w):
 jq jk 127 #[.string s,vm,E] w λe w'=>e=jp (T A (m6 (aX s) msg nums:ja))/\ji w w w':=by
 obtain⟨p,c,rfl,H,a⟩:=hn;rw[jF]at H a⊢;obtain⟨n,l⟩:=J nums.length;rw[<-l]at H F a⊢;have q:=O l;have K:=O a;have aa:=O g;have M:=O t;have Wi:=O f;obtain⟨P,Q,rfl,UE,-,-⟩:=t;have ad:=O d;have R:=O h;obtain⟨S,b⟩:=J msg.length;rw[<-b]at M UE⊢;have a1:=O b;clear l a g f d h b
 go_enter func127,ntmps127
 go_wp2_with fail
 go_loopw [7,10,13] (λj b a wr=>∃(i:ja) (u:jl),j=u/\a=T A i/\i<=n/\jd (wr.ownsRow w 5 1 u (8*i) ((cW (nums.take i)).map v8))/\jd (ji w w wr)) (λ_ _ a _=>n-(js a).toNat)
 case atStart=>exact⟨0,_,I,I,jS _,O (kn _ _ _ _),O (jG _ _)⟩
 obtain⟨i,u,rfl,rfl,hi,U,f⟩:=hrel
 by_cases V:i<n
 ·have hd:=ao ((i:N)<(n:N))
  have Sm:=ao (i<n);obtain⟨g,o,rfl,k⟩:=K Y;have a:i<nums.length:=by rw[<-q];exact V
  have m:(nums.map uy).getD i 0=((nums[i]:ja):N):=by simp[jQ,a]
  obtain⟨y,d⟩:=J (nums[i]);have a2:y<9223372036854775808:=by rw[d];exact aa _ (qs a)
  have h:=k i V;rw[m,<-d]at h;have c1:wr.cell? ⟨g,o+i,jc⟩=jb (T A (y:ja)):=(bX (f.block g (fb h))).trans h;have Yt:jd (cW (nums.take (i+1))=cW (nums.take i)++be8 y):=O (by
   rw[qt a,tL,d])
  have v:=f.size;have a3:(0:N)<=(y:N):=Y;have a4:qM.wrap (y:N)=(y:N):=by rw[qN];omega
  clear m d h k a K
  go_wp2_with fail
  go_loopw [7,10] (λj b d=>∃(k:ja) (x:jl) (a:N),j=x/\b=T A a/\ -8<=a/\a<=56/\jd (a=56-8*(k:N))/\jd (d.ownsRow w 5 1 x (8*i+k) ((cW (nums.take i)++beK y k).map v8))/\jd (ji w w d)) (λ_ b _=>(js b+8).toNat)
  case atStart=>exact⟨0,_,_,I,I,by omega,by omega,O rfl,O (by rw[beK,km];exact U),f⟩
  obtain⟨k,x,a,rfl,rfl,a5,ba,r,z,B⟩:=hrel
  by_cases W:0<=a
  ·obtain⟨m,rfl⟩:=m0 W
   have al:decide ((0:N)<=(m:N))=jm:=by simp
   have t:m<=56:=Y;have C:k<8:=aA r;have d:beK y (k+1)=beK y k++[mT 8 (y/2^m)]:=by rw[beK,show 56-8*k=m by have:=r.out;omega]
   obtain⟨b,h⟩:=J (mT 8 (y/2^m));rw[<-h]at d;have bb:jr.wrap ((y:N)/2^m)=(b.toNat:N):=by
    rw[h,qO,qP];have e:(y:N)/2^m=((y/2^m:ja):N):=by simp
    rw[e];omega
   have au:=O d;have D:=B.size;have bc:decide ((m:N)<0)=jj:=by simp
   clear h d W
   go_wp2_with (at_builtin;refine Hid.out ?_)
   refine O ?_;refine j1 I λ_ h=>nO _ _ I w.heap.size _ _ _ I (dx z (ai wr _)) _ 1 [T .u8 b.toNat] I (pB wr (T .u8 b.toNat)) (by simp[kw]) Y (jP D (ai wr _).size) λX w5 d=>h _ _ ?_
   have j:=O (B.trans (((ai wr _).mono D).trans (d.below (dx z (ai wr _)) (jP D (ai wr _).size))));have U6:=O d.own;clear h d
   go_wp2_with fail
   refine⟨⟨k+1,_,_,I,I,by omega,by omega,O (aA r),?_,j⟩,?_⟩
   ·exact O (by rw[au,<-kl,lr];exact U6)
   simp only[js];omega
  have al:=ap ((0:N)<=a);have C:k=8:=aA r;have b:=z.out;rw[C]at b;have m:=O b;clear b C
  go_wp2_with fail
  refine⟨⟨i+1,_,I,by go_num,by omega,O ?_,B⟩,?_⟩
  ·rw[Yt];exact m
  simp only[js];omega
 have hd:=ap ((i:N)<(n:N));have Sm:=ap (i<n);have a:i=n:=Y;have b:=U.out;rw[a,jV (by rw[<-q];exact jt _)]at b;have m:=O b;have v:=f.size;have g:aP wr (jg P S Q) msg:=M.below f;have r:=O g.row;clear b a g
 go_wp2_with (at_builtin;refine Hid.out ?_)
 refine O ?_;have x:=rG nums;have l:nums.length<=1000:=by rw[<-q];exact F
 have y:=Wi.out;refine j1 I λ_ h=>nO _ _ I w.heap.size _ _ _ I m (jg P S Q) msg.length (msg.map v8) I r (sl _) Y v λX w5 d=>h _ _ ?_
 have j:=O (f.trans ((d.below m v)));have a:=d.own;rw[<-lr]at a;have b:8*n+msg.length=(cW nums++msg).length:=by rw[jM,x,<-q]
 rw[b]at a;have g:=aP.of_own a;have k:=F3 s (aA ad) X _ (by rw[jM];omega) w5 g (R.below j).num (R.below j).start;have o:=O k;clear h d a b g k
 go_wp2_with fail
 refine o.mono ?_;rintro e d ⟨rfl,a⟩;have b:=ac j a;clear a o
 go_wp2_with fail
 go_ret;exact⟨I,b⟩
theorem fq{P:jU}{fn:Func}{p b:Tmp}{a:jH}(h:fn.results= #[.cell p a,.tmp b])(tmps:jD jl)(w:jh)(g:ja)(t:jH)(cs:jD jl)(fr:ja×ja)(d:TypeDesc)
 (c:tmps.getD p jJ=jz (jb ⟨g,0,jc⟩)) (e:w.heap[g]?=jb (jf cs t fr))
 (f:P.underlying a=jb d) (i:(match d with| .struct _ | .array _ _=>jm|_=>jj)=jm) (j:(P.info? a).map (·.size)=jb cs.size):
 (results fn tmps).run P w=.ok (jC #[jn cs,tmps.getD b jJ]) w:=by
 rw[results_cell_tmp h,c];simp[asAddr,run_loadVar_row w g t a cs fr d e f i j]
def iY(x:N):Prop:=1<=x/\x<2305843009213688669
instance(x:N):Decidable (iY x):=by unfold iY;infer_instance
theorem uf(a k:ja):aR a k<4611686018427377339:=by
 have h:aR a k<PN:=qu _ (by rw[dX];decide)
 rwa [dX]at h
theorem yP(x:N)(w:jh):
 jq jk 105 #[T A x] w λe w'=>e=jp (.bool (decide (iY x)))/\w=w':=by
 obtain⟨r,a⟩:=J (decide (iY x));rw[<-a]
 by_cases b:1<=x
 ·have c:=ao (1<=x)
  obtain rfl:r=decide (x<2305843009213688669):=by rw[a];simp[iY,b]
  clear a
  go_enter func105,ntmps105
  go_wp2
  go_ret;exact⟨I,I⟩
 have c:=ap (1<=x);obtain rfl:r=jj:=by rw[a];simp[iY,b]
 clear a
 go_enter func105,ntmps105
 go_wp2
 go_ret;exact⟨I,I⟩
theorem Fj(x:ja)(f:1<=x)(b:x<2305843009213688669)(w:jh):
 jq jk 106 #[T A x] w λe w'=>e=jp (T A (aR 4 x:ja))/\ji w w w':=by
 have c:=O (uq x b)
 go_enter func106,ntmps106
 go_wp2_with fail
 refine(c _).mono ?_;rintro e g ⟨rfl,a⟩;have d:=O a;clear a
 go_wp2_with fail
 go_ret;exact⟨I,d⟩
theorem tI(x:ja)(c:1<=x)(d:x<2305843009213688669)(w:jh):
 jq jk 41 #[T A x] w λe w'=>e=jp (jC #[T A (aR 4 x:ja),T A 0])/\ji w w w':=by
 have a:=O (yP (x:N));have b:iY (x:N):=⟨by omega,by omega⟩;rw[jO b]at a;have f:=O (Fj x c d);clear b
 go_enter func41,ntmps41
 go_wp2_with fail
 refine(a _).mono ?_;rintro e h ⟨rfl,rfl⟩
 go_wp2_with fail
 refine(f _).mono ?_;rintro e i ⟨rfl,b⟩;have g:=O b;clear b
 go_wp2_with fail
 go_ret2;exact⟨I,g⟩
theorem GH(x:N)(h:¬iY x)(w:jh):
 jq jk 41 #[T A x] w λe w'=>e=jp (jC #[T A 0,T A 50])/\w=w':=by
 have a:=O (yP x);rw[decide_eq_false h]at a;clear h
 go_enter func41,ntmps41
 go_wp2_with fail
 refine(a _).mono ?_;rintro e b ⟨rfl,rfl⟩
 go_wp2_with fail
 go_ret2;exact⟨I,I⟩
def sN(x:ja)(msg:af):ja:=m6 (aX ⟨#[110,111,110,99,101]⟩) msg [x]
def lE(x:ja)(msg:af):ja:=aR 4 (sN x msg)
def r5(r p:ja)(msg:af):ja:=m6 (aX ⟨#[115,105,103,110]⟩) msg [r,p]
def lX(x:ja)(msg:af):ja:=(sN x msg+r5 (lE x msg) (aR 4 x) msg*x%QN)%QN
theorem uO(t m l):m6 t m l<2305843009213688669:=(yf _ _).2
theorem PR(x:ja)(Q:1<=x)(R:x<2305843009213688669)(msg:af)(vm:jl)(u:msg.length<=100000)(w:jh)(S:aP w vm msg)(y:da w):
 jq jk 53 #[T A x,vm] w λe w'=>e=jp (jC #[jn #[T A (lE x msg:ja),T A (lX x msg:ja)],T A 0])/\ji w w w':=by
 obtain⟨b,a⟩:=J (lE x msg);obtain⟨g,c⟩:=J (sN x msg);obtain⟨r,h⟩:=J (r5 b (aR 4 x) msg);obtain⟨k,j⟩:=J (r*x%QN);have o:lX x msg=(g+k)%QN:=by rw[j,h,a,c];rfl
 have U:jd (g<2305843009213688669):=O (by rw[c];exact uO _ _ _);have al:jd (r<2305843009213688669):=O (by rw[h];exact uO _ _ _);have VB:jd (k<2305843009213688669):=O (by rw[j];exact qu _ G);have Wh:jd (b<4611686018427377339):=O (by rw[a];exact uf _ _);have au:jd (m6 (aX ⟨#[115,105,103,110]⟩) msg [b,aR 4 x]=r):=O h.symm;have a1:jd (m6 (aX ⟨#[110,111,110,99,101]⟩) msg [x]=g):=O c.symm;have a2:jd (r*x%QN=k):=O j.symm;have a3:jd (aR 4 g=b):=O (by rw[c,a];rfl);rw[o,<-a];have a4:=O R;have S4:=O Q;have D:=O S;have V:=O u;have W:=O y;obtain⟨X,cm,rfl,UE,-,-⟩:=S;obtain⟨ml,m⟩:=J msg.length;rw[<-m]at D UE⊢;have ba:=O m;have n:=yP (x:N);have z:iY (x:N):=⟨by omega,by omega⟩;rw[jO z]at n;have HV:=O n;have EG:∀args w,(oi 105 args).run jk w=.ok (.enter 105 args) w:=λ_ _=>rfl
 have bb:∀args w,(oi 106 args).run jk w=.ok (.enter 106 args) w:=λ_ _=>rfl
 have l:=jw w (jf #[T A 0,T A 0] 61);have q:=ai w (jf #[T A 0,T A 0] 61);obtain⟨p,s⟩:=J (w.alloc (jf #[T A 0,T A 0] 61));obtain⟨d,t⟩:=J w.heap.size;rw[<-s]at l q;rw[<-t]at l;have C:=O l;have f:=O q;have Sw:=O s;have B:=O t;clear a c h j o u y m n z l q s t
 go_enter func53,ntmps53
 go_wp2_with fail
 rw[<-Sw,<-B];refine(HV _).mono ?_;rintro e w1 ⟨rfl,rfl⟩
 go_wp2_with fail
 have l:=zc ⟨#[110,111,110,99,101]⟩ G msg (jg X ml cm) V [x] _ ax (by
  intro z s;simp only[jW,qQ,or_false]at s;rw[s];omega) (p.alloc (jf #[T A (x:ja)] 3)) ((D.below f).below (ai p _)) (m9 p (x:ja)) ((W.below f).below (ai p _))
 rw[a1]at l;refine l.mono ?_;clear l;rintro e w2 ⟨rfl,a⟩;replace a:=(ai p (jf #[T A (x:ja)] 3)).trans (a.mono (ai p _).size);have t:=Z C a;have m:=ac f a;clear a C f
 go_wp2_with fail
 refine(uq g U w2).mono ?_;rintro e w3 ⟨rfl,a⟩;rw[a3];have u:=Z t a;have C:=ac m a;clear a t m;obtain⟨⟨u3,E⟩,F,n,j⟩:=cE (i:=0) (T A (b:ja)) u G;obtain⟨H,c⟩:=J (w3.setCell ⟨d,0,jc⟩ (T A (b:ja)));have a5:=O c;rw[<-c]at n j;have q:jd (H.heap[d]?=jb (jf #[T A (b:ja),T A 0] 61 (0,0))):=O n;have y:=O (C.trans (j.below (by rw[B];exact jt _)));have bc:=O j;have K:=ae (i:=0) q I;clear n c j u
 go_upto_region 7 with fail
 rw[<-a5];clear E F;refine lw ?_;refine bY (λc=>c.cell? ⟨d,0,jc⟩=jb (T A (b:ja))) (.t 0 (.t 1 (.t 2 (.t 3 (.t 7 (.o 4 (.o 5 (.o 6 (.o 8 (.t 9 (.t 10 (.t 11 (.t 12 (.t 13 .done)))))))))))))) ag ag ag G (λ_ _ _ _ h=>h) K ?_;obtain⟨y0,h⟩:=J H.drew;have a:=bz H;rw[<-h]at a⊢;have P:=O (aB K a);have R8:=Z q a;have f:=ac y a;clear a h K q y;iterate 2 refine aL ?_
 (refine aE (v:=?_) I aj (λc h=>?_) ?_;rotate_left;(have h:=h;go_simp;with_reducible rfl);refine L ?_)
 iterate 2 refine aL ?_
 refine ar I (λK c=>?_);go_simp;refine(Fj x Q R y0).mono ?_;rintro e h ⟨rfl,a⟩;have M:=O (aB P a);have R5:=Z R8 a;have RD:=ac f a;clear a P R8 f;refine c _ _ M.out λ_=>?_
 clear c;refine L ?_;refine ar I (λK c=>?_);go_simp;have a:=ai h (jf #[T A (b:ja),T A (aR 4 x:ja)] 3);have f:=lc h (b:ja) (aR 4 x:ja);obtain⟨y2,aa⟩:=J (h.alloc (jf #[T A (b:ja),T A (aR 4 x:ja)] 3));obtain⟨gi,U9⟩:=J h.heap.size;rw[<-aa]at a f⊢;rw[<-U9]at f⊢;have P:=O (aB M a);have t:=Z R5 a;have m:=ac RD a;have ad:=O f;clear a M R5 RD aa U9 f;refine c _ _ P.out λ_=>?_
 clear c;refine L ?_;refine ar I (λK c=>?_);go_simp;have l:=zc ⟨#[115,105,103,110]⟩ G msg (jg X ml cm) V [b,aR 4 x] _ ax (by
  intro z s;simp only[jW,qQ,or_false]at s
  rcases s with rfl|rfl
  ·have:=Wh.out;omega
  have:=uf 4 x;omega) y2 (D.below m) ad (W.below m)
 rw[au]at l;refine l.mono ?_;clear l;rintro e M ⟨rfl,a⟩;have f:=O (aB P a);have u:=Z t a;have C:=ac m a;clear a P t m ad;refine c _ _ f.out λ_=>?_
 clear c;refine L ?_;refine ar I (λK c=>?_);go_simp;have l:=GG r x M al a4;rw[a2]at l;refine l.mono ?_;clear l;rintro e t ⟨rfl,a⟩;have m:=O (aB f a);have q:=Z u a;have y:=ac C a;clear a f u C;refine c _ _ m.out λ_=>?_
 clear c;refine L ?_;iterate 5 refine aL ?_
 refine j4 ?_
 go_wp2_with fail
 have l:=IH (g:ja) (k:ja) t ⟨by omega,by have:=U.out;omega⟩ ⟨by omega,by have:=VB.out;omega⟩;rw[show((g:N)+(k:N))%2305843009213688669=(((g+k)%QN:ja):N)from by unfold QN;omega]at l;obtain⟨f,o⟩:=J ((g+k)%QN);rw[<-o]at l;refine l.mono ?_;clear l;rintro e u ⟨rfl,a⟩;have s:=Z q a;have K:=ac y a;have P:=O o;clear a q y m o;obtain⟨⟨u3,E⟩,F,n,j⟩:=cE (i:=1) (T A (f:ja)) s ax;obtain⟨a,l⟩:=J (u.setCell ⟨d,1,jc⟩ (T A (f:ja)));have o:=O l;rw[<-l]at n j;have m:jd (a.heap[d]?=jb (jf #[T A (b:ja),T A (f:ja)] 61 (0,0))):=O n;have q:=O (K.trans (j.below (by rw[B];exact jt _)));clear n l j s
 go_upto_region 9 with fail
 rw[<-o];clear E F;refine mz ?_;refine n0 I 61 _ I d I 61 #[T A (b:ja),T A (f:ja)] (0,0) _ m.out underlying61 I I ?_;refine j1 I λ_ j=>?_
 go_simp;refine j _ _ ?_;clear j;refine j1 I λ_ c=>mb 61 _ _ I d #[T A (b:ja),T A (f:ja)] I I 61 _ m.out I I (by simp[kw]) (c _ _ ?_)
 have j:(a.setRow d #[T A (b:ja),T A (f:ja)]).heap[d]?=jb (jf #[T A (b:ja),T A (f:ja)] 61 (0,0)):=jZ _ _ _ _ _ _ m.out;have l:ji w w (a.setRow d #[T A (b:ja),T A (f:ja)]):=j7 q.out (by rw[B];exact jt _) _;generalize a.setRow d #[T A (b:ja),T A (f:ja)]=z at j l⊢;have n:=O j;have s:=O l;clear j l c
 go_wp2_with fail
 refine bodyPost_ret_by (fq I _ _ d 61 #[T A (b:ja),T A (f:ja)] (0,0) _ I n underlying61 I I) I ⟨by rw[P];rfl,s⟩
section
open Go Go.RowKit
theorem Fs{α β:Type}{f:α->jR β}{g:α->β}:∀(l:je α),(∀i∈l,f i=jb (g i))->l.mapM f=jb (l.map g)
 |[],_=>by simp
 |a::l,h=>by
  rw[List.mapM_cons,h a ax,Fs l (λi b=>h i (by simp[b]))]
  rfl
theorem Gx{E:jH}{k:IntKind}(f:P.underlying m=jb (.array b E))(he:P.underlying E=jb (.int k))(h:P.cellsOf m=b)(j:P.cellsOf E=1)(cs:je N)(d:cs.length=b)(t:∀c∈cs,(Lit.int k c).wf=jm):
 P.keyLits 2 m (cs.map (jo k))=jb (cs.map (Lit.int k)):=by
 have c:∀i∈qb b,P.keyLits 1 E (((cs.map (jo k)).drop (i*1)).take 1)=jb [Lit.int k (cs.getD i 0)]:=λi n=>by
  have a:i<cs.length:=by rw[d];exact qv.1 n
  have l:((cs.map (jo k)).drop (i*1)).take 1=[jo k cs[i]]:=by
   rw[Nat.mul_one,<-List.map_drop,<-List.map_take,xF a,List.take_succ_cons,xC,qo,List.map_nil]
  have o:cs.getD i 0=cs[i]:=by simp[jQ,a]
  rw[l,o];unfold Program.keyLits;rw[he];simp[t _ (qs a)]
 unfold Program.keyLits;rw[f];simp only[jF,d,h,j,if_true];rw[Fs (g:=λi=>[Lit.int k (cs.getD i 0)]) _ c];simp only[wi,Option.some.injEq];have o:∀(l:je ja),(l.map λi=>[Lit.int k (cs.getD i 0)]).flatten=l.map λi=>Lit.int k (cs.getD i 0):=λl=>by
  induction l with
  |nil=>rfl
  |cons a l p=>rw[qo,xE,p];rfl
 rw[o]
 apply List.ext_getElem?
 intro i;rw[j5,j5]
 by_cases n:i<b
 ·rw[List.getElem?_range n,lm Y]
  have:i<cs.length:=Y;simp[jQ,this]
 rw[xG (by simp;omega),xG Y]
 rfl
theorem zt{t e:jH}{n:ja}{k:IntKind}(f:P.underlying t=jb (.array n e))(he:P.underlying e=jb (.int k))(g:P.cellsOf t=n)(i:P.cellsOf e=1)(hk:P.keyTypeAt 2 t=jm)(xs d:je N)(j:xs.length=n)(m:d.length=n)
 (p:∀c∈xs,(Lit.int k c).wf=jm) (q:∀c∈d,(Lit.int k c).wf=jm) (w:jh):
 (Op.equalIn 10000 t (.agg (xs.map (jo k)).toArray) (.agg (d.map (jo k)).toArray)).run P w=.ok (decide (xs=d)) w:=by
 have o:∀l:je N,l.length=n->(wq (l.map (jo k)).toArray).formed P t=jm:=λl s=>by
  unfold Value.formed;rw[f];simp[g,s]
 obtain⟨r,u,c⟩:=run_equalIn_deep 9998 2 t hk w 2 2 (.agg (xs.map (jo k)).toArray) (.agg (d.map (jo k)).toArray) _ _ (o xs j) (o d m) (by show P.keyLits 2 t (xs.map (jo k)).toArray.toList=_;rw[xH];exact Gx f he g i xs j p) (by show P.keyLits 2 t (d.map (jo k)).toArray.toList=_;rw[xH];exact Gx f he g i d m q);rw[u]
 congr 1
 have v:xs.map (Lit.int k)=d.map (Lit.int k)↔xs=d:=by
  constructor
  ·intro h
   exact(xI (λa b h=>by injection h)).1 h
  intro h;rw[h]
 rw[v]at c
 by_cases h:xs=d
 ·rw[c.2 h];simp[h]
 have:r=jj:=by cases r with
  |false=>rfl
  |true=>exact jB (c.1 I) h
 rw[this];simp[h]
end
def lB(p r s:N)(msg:af):Prop:=aW p/\aW r/\InQ s/\aR 4 s.toNat=r.toNat*aR p.toNat (r5 r.toNat p.toNat msg)%PN
theorem PM(a b:ja):(((a:N)==(b:N))=jm↔a=b):=by rw[beq_iff_eq];omega
theorem Eu(n:N):b7 n=0\/b7 n=40:=by
 by_cases h:aW n
 ·exact .inl (eG h)
 exact .inr (fJ h)
theorem LO(n:N):kE n=0\/kE n=1:=by unfold kE;split<;>simp
theorem eq3(a b c:N)(f:a=0\/a=40)(g:b=0\/b=40)(i:c=0\/c=1)(z:jh):
 (Op.equalIn 10000 198 (jn #[T A a,T A b,T A c]) (jn #[T A 0,T A 0,T A 0])).run jk z=.ok (decide (a=0/\b=0/\c=0)) z:=by
 have h:=zt (P:=jk) (t:=198) (e:=36) (n:=3) (k:=.i64) xx underlying36 ag ag ag [a,b,c] [0,0,0] I I (by
  intro x d;simp only[jW,qQ,or_false]at d;exact WalkArith.wf_i64 Y) G z
 simpa using h
theorem FP{p r s:N}{msg:af}{a kb b:N}(c:a=b7 p)(d:kb=b7 r)(f:b=kE s):(a=0/\kb=0/\b=0)↔(aW p/\aW r/\InQ s):=by
 have e:∀n,b7 n=0↔aW n:=λn=>⟨λh=>by
  by_cases g:aW n
  ·exact g
  rw[fJ g]at h;exact jB h G,eG⟩
 have q:kE s=0↔InQ s:=by unfold kE;split<;>simp_all
 rw[c,d,f,e,e,q]
theorem O9{b:jD j0}{c:Exit->Act->jh->Prop}{t:bJ}{a:Act}(r:bJ){d:ja->Act}{e:ja->jh->Prop}(f:∀x w,e x w->ey P b c j r (d x) w)(h:(∀x w,e x w->ey P b c j r (d x) w)->ey P b c j t a w):ey P b c j t a w:=h f
theorem LQ(p r t:N)(msg:af)(vm:jl)(k:msg.length<=100000)(w:jh)(hm:aP w vm msg)(l:da w):
 jq jk 59 #[T A p,vm,jn #[T A r,T A t]] w λe w'=>∃b,e=jp (.bool b)/\jd (b=jm↔lB p r t msg)/\ji w w w':=by
 obtain⟨m,a⟩:=J (b7 p);obtain⟨kb,c⟩:=J (b7 r);obtain⟨n,f⟩:=J (kE t);have KA:=fO p;have KB:=fO r;have X:=L4 t;rw[<-a]at KA;rw[<-c]at KB;rw[<-f]at X;have aa:=O a;have YU:=O c;have ad:=O f;have HM:=O hm;have Wi:=O k;have HT:=O l;obtain⟨pm,cm,rfl,UE,-,-⟩:=hm;obtain⟨ml,o⟩:=J msg.length;rw[<-o]at HM UE⊢;have d:=jw w (jf #[T A r,T A t] 61);have g:=ai w (jf #[T A r,T A t] 61);obtain⟨W1,h⟩:=J (w.alloc (jf #[T A r,T A t] 61));obtain⟨F,u⟩:=J w.heap.size;rw[<-h]at d g;rw[<-u]at d;have j:=O d;have RG:=O g;have Sw:=O h;have HG:=O u;clear a c f k l o d g h u
 go_enter func59,ntmps59
 have al:=O (eq3 m kb n (by rw[aa];exact Eu p) (by rw[YU];exact Eu r) (by rw[ad];exact LO t))
 go_upto_region 1 with fail
 rw[<-Sw,<-HG];refine lw ?_;refine bY (λf=>f.heap[F]?=jb (jf #[T A r,T A t] 61 (0,0))) (.t 0 (.t 2 (.t 3 (.t 5 (.t 6 (.w 1 9 (.w 4 9 (.w 7 9 (.t 8 (.o 9 (.o 10 .done))) (.o 7 (.t 8 (.o 10 .done)))) (.o 4 (.o 7 (.t 8 (.o 10 .done))))) (.o 1 (.o 4 (.o 7 (.t 8 (.o 10 .done))))))))))) ag ag ag G (λ_ _ _ _ h=>h) j ?_;obtain⟨W,c⟩:=J W1.drew;have a:=bz W1;rw[<-c]at a⊢;have R2:=Z j a;have RG:=ac RG a;clear a c j;iterate 2 refine aL ?_
 (refine aE (v:=?_) I aj (λf c=>?_) ?_;rotate_left;(have c0:=ae (i:=0) c I;have c1:=ae (i:=1) c I;go_simp;with_reducible rfl);refine L ?_)
 refine aL ?_
 (refine aE (v:=?_) I aj (λf c=>?_) ?_;rotate_left;(have c0:=ae (i:=0) c I;have c1:=ae (i:=1) c I;go_simp;with_reducible rfl);refine L ?_)
 apply O9 (.o 10 .done)
 rotate_left
 ·intro S
  refine gM ?_ ?_
  ·refine ar I (λl c=>?_)
   go_simp;refine(KA W).mono ?_;rintro e P ⟨rfl,a⟩;have U:=ac RG a;have H:=Z R2 a;clear a;refine c _ _ H.out λ_=>?_
   clear c;refine L ?_;refine gM ?_ ?_
   ·refine ar I (λl c=>?_)
    go_simp;refine(KB P).mono ?_;rintro e x ⟨rfl,a⟩;have y:=ac U a;have j:=Z H a;clear U H;clear a;refine c _ _ j.out λ_=>?_
    clear c;refine L ?_;refine gM ?_ ?_
    ·refine ar I (λl c=>?_)
     go_simp;refine(X x).mono ?_;rintro e o ⟨rfl,a⟩;have q:=ac y a;have f:=Z j a;clear y j;clear a;refine c _ _ f.out λ_=>?_
     clear c;refine L ?_;refine aL ?_;refine ar I (λl c=>?_);go_simp;have a:=ai o (jf #[T A 0,T A 0,T A 0] 198);have d:=jw o (jf #[T A 0,T A 0,T A 0] 198);obtain⟨s,z⟩:=J (o.alloc (jf #[T A 0,T A 0,T A 0] 198));have B:F<o.heap.size:=(jL.1 f).1;have C:w.heap.size<=o.heap.size:=q.size;rw[<-z]at a d⊢;obtain⟨D,g⟩:=J o.heap.size;rw[<-g]at d⊢;have E:=O g;clear g;have Q:=ac q a;have k:=Z f a;clear q f;have K:=O d;have M:jd (F<D):=O (by rw[E];exact B);have R:jd (w.heap.size<=D):=O (by rw[E];exact C);clear B C;clear d z a;refine c _ _ k.out λ_=>?_
     clear c;refine L ?_;have u:=(And.intro Q (And.intro k (And.intro K (And.intro M R))));exact S D s u
    refine ar I (λl c=>?_);go_simp;have a:=ai x (jf #[T A 0,T A 0,T A 0] 198);have d:=jw x (jf #[T A 0,T A 0,T A 0] 198);obtain⟨o,z⟩:=J (x.alloc (jf #[T A 0,T A 0,T A 0] 198));have B:F<x.heap.size:=(jL.1 j).1;have C:w.heap.size<=x.heap.size:=y.size;rw[<-z]at a d⊢;obtain⟨D,g⟩:=J x.heap.size;rw[<-g]at d⊢;have E:=O g;clear g;have q:=ac y a;have f:=Z j a;clear y j;have V:=O d;have M:jd (F<D):=O (by rw[E];exact B);have R:jd (w.heap.size<=D):=O (by rw[E];exact C);clear B C;clear d z a;refine c _ _ f.out λ_=>?_
    clear c;refine L ?_;refine ar I (λl c=>?_);go_simp;refine(X o).mono ?_;rintro e s ⟨rfl,a⟩;have Q:=ac q a;have k:=Z f a;have K:=Z V a;clear q f V;clear a;refine c _ _ k.out λ_=>?_
    clear c;refine L ?_;refine aL ?_;have u:=(And.intro Q (And.intro k (And.intro K (And.intro M R))));exact S D s u
   refine ar I (λl c=>?_);go_simp;have a:=ai P (jf #[T A 0,T A 0,T A 0] 198);have d:=jw P (jf #[T A 0,T A 0,T A 0] 198);obtain⟨x,z⟩:=J (P.alloc (jf #[T A 0,T A 0,T A 0] 198));have B:F<P.heap.size:=(jL.1 H).1;have C:w.heap.size<=P.heap.size:=U.size;rw[<-z]at a d⊢;obtain⟨D,g⟩:=J P.heap.size;rw[<-g]at d⊢;have E:=O g;clear g;have y:=ac U a;have j:=Z H a;clear U H;have UY:=O d;have M:jd (F<D):=O (by rw[E];exact B);have R:jd (w.heap.size<=D):=O (by rw[E];exact C);clear B C;clear d z a;refine c _ _ j.out λ_=>?_
   clear c;refine L ?_;refine ar I (λl c=>?_);go_simp;refine(KB x).mono ?_;rintro e o ⟨rfl,a⟩;have q:=ac y a;have f:=Z j a;have V:=Z UY a;clear y j UY;clear a;refine c _ _ f.out λ_=>?_
   clear c;refine L ?_;refine ar I (λl c=>?_);go_simp;refine(X o).mono ?_;rintro e s ⟨rfl,a⟩;have Q:=ac q a;have k:=Z f a;have K:=Z V a;clear q f V;clear a;refine c _ _ k.out λ_=>?_
   clear c;refine L ?_;refine aL ?_;have u:=(And.intro Q (And.intro k (And.intro K (And.intro M R))));exact S D s u
  refine ar I (λl c=>?_);go_simp;have a:=ai W (jf #[T A 0,T A 0,T A 0] 198);have d:=jw W (jf #[T A 0,T A 0,T A 0] 198);obtain⟨P,z⟩:=J (W.alloc (jf #[T A 0,T A 0,T A 0] 198));have B:F<W.heap.size:=(jL.1 R2).1;have C:w.heap.size<=W.heap.size:=RG.size;rw[<-z]at a d⊢;obtain⟨D,g⟩:=J W.heap.size;rw[<-g]at d⊢;have E:=O g;clear g;have U:=ac RG a;have H:=Z R2 a;have g:=O d;have M:jd (F<D):=O (by rw[E];exact B);have R:jd (w.heap.size<=D):=O (by rw[E];exact C);clear B C;clear d z a;refine c _ _ H.out λ_=>?_
  clear c;refine L ?_;refine ar I (λl c=>?_);go_simp;refine(KA P).mono ?_;rintro e x ⟨rfl,a⟩;have y:=ac U a;have j:=Z H a;have UY:=Z g a;clear U H g;clear a;refine c _ _ j.out λ_=>?_
  clear c;refine L ?_;refine ar I (λl c=>?_);go_simp;refine(KB x).mono ?_;rintro e o ⟨rfl,a⟩;have q:=ac y a;have f:=Z j a;have V:=Z UY a;clear y j UY;clear a;refine c _ _ f.out λ_=>?_
  clear c;refine L ?_;refine ar I (λl c=>?_);go_simp;refine(X o).mono ?_;rintro e s ⟨rfl,a⟩;have Q:=ac q a;have k:=Z f a;have K:=Z V a;clear q f V;clear a;refine c _ _ k.out λ_=>?_
  clear c;refine L ?_;refine aL ?_;have u:=(And.intro Q (And.intro k (And.intro K (And.intro M R))));exact S D s u
 clear RG R2;rintro D s ⟨Q,k,K,M,R⟩;refine ar I (λl c=>?_);rw[ju aj];refine mb 198 _ _ I D #[T A m,T A kb,T A n] I I 198 _ K.out ag aj (by simp[kw]) (c _ _ ((jY _ _ _ _ (wt M)).trans k) λ_=>?_);clear c;have c:(s.setRow D #[T A m,T A kb,T A n]).heap[D]?=jb (jf #[T A m,T A kb,T A n] 198 (0,0)):=jZ _ _ _ _ _ _ K.out;have f:(s.setRow D #[T A m,T A kb,T A n]).heap[F]?=jb (jf #[T A r,T A t] 61 (0,0)):=(jY _ _ _ _ (wt M)).trans k;have g:ji w w (s.setRow D #[T A m,T A kb,T A n]):=j7 Q R _;generalize s.setRow D #[T A m,T A kb,T A n]=z at c f g⊢;have B:=O c;have C:=O f;have E:=O g;clear c f g;refine L ?_;refine j4 ?_;have eq3:=al.out;clear al KA KB X
 by_cases g:m=0/\kb=0/\n=0
 ·have X:decide (m=0/\kb=0/\n=0)=jm:=jO g
  obtain⟨l,o,q⟩:=(FP (msg:=msg) aa YU ad).1 g;clear g
  go_upto_region 2 with fail
  refine mz ?_;refine n0 I 198 _ I D I 198 #[T A m,T A kb,T A n] (0,0) _ B.out xx I ag ?_;clear B;obtain⟨c,rfl⟩:=m0 (show 0<=p by have:=l.1;omega);obtain⟨f,rfl⟩:=m0 (show 0<=r by have:=o.1;omega);obtain⟨x,rfl⟩:=m0 q.1;have H:x<2305843009213688669:=by have:=q.2;omega
  have P:f<9223372036854775808:=by have:=o.2.1;omega
  have U:c<9223372036854775808:=by have:=l.2.1;omega
  have V:=O l;have HR:=O o;have al:=O H;have Yr:=O P;have au:=O U;obtain⟨j,y⟩:=J (r5 f c msg);have a1:jd (m6 (aX ⟨#[115,105,103,110]⟩) msg [f,c]=j):=O y.symm;have a2:jd (j<2305843009213688669):=O (by rw[y];exact uO _ _ _);have TY:jd (∀b:jE,(b=jm↔aR 4 x=f*aR c j%PN)->(b=jm↔lB (c:ja) (f:ja) (x:ja) msg)):=O (λb h=>by
   rw[h];unfold lB;simp only[Int.toNat_natCast,<-y];exact⟨λh=>⟨l,o,q,h⟩,λh=>h.2.2.2⟩)
  clear l o q H P U y;have c1:=ae (i:=1) C I
  go_wp2_with fail
  refine(uq x al z).mono ?_;rintro e l ⟨rfl,a⟩;have y:=Z C a;have o:=ac E a;clear c1 a C E;have c0:=ae (i:=0) y I
  go_wp2_with fail
  have S:=zc ⟨#[115,105,103,110]⟩ G msg (jg pm ml cm) Wi [f,c] _ ax (by
   intro q H;simp only[jW,qQ,or_false]at H
   rcases H with rfl|rfl
   ·exact Yr
   exact au) (l.alloc (jf #[T A (f:ja),T A (c:ja)] 3)) ((HM.below o).below (ai l _)) (lc l (f:ja) (c:ja)) ((HT.below o).below (ai l _))
  rw[a1]at S;refine S.mono ?_;clear S;rintro e P ⟨rfl,a⟩;replace a:=(ai l (jf #[T A (f:ja),T A (c:ja)] 3)).trans (a.mono (ai l _).size);have q:=Z y a;have H:=ac o a;clear c0 a y o
  go_wp2_with fail
  refine(zp c j V a2 P).mono ?_;rintro e U ⟨rfl,a⟩;have o:=Z q a;have y:=ac H a;clear a q H;have c0:=ae (i:=0) o I
  go_wp2_with fail
  refine(MS f (aR c j) HR (nX V j) U).mono ?_;rintro e H ⟨rfl,a⟩;have q:=ac y a;clear a o y c0
  go_wp2_with fail
  go_ret;exact⟨_,I,O (TY _ (PM _ _)),q⟩
 have X:decide (m=0/\kb=0/\n=0)=jj:=decide_eq_false g;have c:jd (¬lB p r t msg):=O (λh=>g ((FP (msg:=msg) aa YU ad).2 ⟨h.1,h.2.1,h.2.2.1⟩));clear g
 go_upto_region 2 with fail
 refine mz ?_;refine n0 I 198 _ I D I 198 #[T A m,T A kb,T A n] (0,0) _ B.out xx I ag ?_
 go_wp2_with fail
 go_ret;exact⟨jj,I,O ⟨λh=>jB h G,λh=>jB h c⟩,E⟩
structure B8(b:ja)(x:ja)(c:ja):Prop where
 enter:∀args w,(oi b args).run jk w=.ok (.enter b args) w
 call:∀(a:ja) (w:jh),aW a->jA w c 3 (T A (x:ja))->jq jk b #[T A a,jz (jb ⟨c,0,jc⟩)] w λe w'=>e=jp (jC #[T A (aR a x:ja),T A 0])/\ji w w w'
theorem Qa(x f:ja)(b:x<2305843009213688669):B8 110 x f:=by
 refine⟨λ_ _=>rfl,λa w c d=>?_⟩;have g:=O (zp a x c b);have h:=d.cell;clear c b d
 go_enter func110,ntmps110
 go_wp2_with fail
 refine(g _).mono ?_;rintro e d ⟨rfl,b⟩;have c:=O b;clear b
 go_wp2_with fail
 go_ret2;exact⟨I,c⟩
def sV(p a v:ja):af:=cS (aX ⟨#[119,114,97,112]⟩) (cW [p,a,v])
theorem wZ(p u v):(sV p u v).length=32:=gX _ _
theorem wK(l:af)(m:ja)(b:BitVec 8):((l++jT (m+1) 0#8).set l.length b)=(l++[b])++jT m 0#8:=by
 rw[List.set_append_right _ _ (jt _),Nat.sub_self,List.replicate_succ,List.set_cons_zero,kl]
 rfl
theorem ME{W:jh}{D:ja}{l:af}{n:ja}{t:jH}(h:W.heap[D]?=jb (jf (l.map v8).toArray t (0,0)))(a:l.length=n):aP W (jg (jb ⟨D,0,jc⟩) n n) l:=by
 refine⟨_,n,by rw[a],by rw[a];exact jt _,(λh=>by cases h),λ_=>⟨D,0,I,λj b=>ae h ?_⟩⟩;rw[jI];simp[jQ,b]
theorem Jc(R x K:ja)(l:B8 R x K)(p a e:ja)(t:p<9223372036854775808)(s:a<9223372036854775808)(he:aW e)(w:jh)(c:jA w K 3 (T A (x:ja)))(u:da w):
 jq jk 113 #[jn #[T A p,.func (.func R) #[] #[jz (jb ⟨K,0,jc⟩)]],T A a,T A e] w λe' w'=>e'=jp (jn ((sV p a (aR e x)).map v8).toArray)/\ji w w w':=by
 obtain⟨aa,y,z⟩:=Arr.mk' (wZ p a (aR e x));rw[<-y];have S:=O z;have al:=O u;have H:=l.enter;have B:=O l.call;have HE:=O he;have hv:=uf e x;obtain⟨v,m⟩:=J (aR e x);rw[<-m]at hv;have TY:=O m;have HP:=O t;have HU:=O s;have HV:jd (v<9223372036854775808):=O Y;have f:=jw w (jf #[T A p,.func (.func R) #[] #[jz (jb ⟨K,0,jc⟩)]] 170);have b:=ai w (jf #[T A p,.func (.func R) #[] #[jz (jb ⟨K,0,jc⟩)]] 170);obtain⟨W0,g⟩:=J (w.alloc (jf #[T A p,.func (.func R) #[] #[jz (jb ⟨K,0,jc⟩)]] 170));rw[<-g]at f b;have h:=jw W0 (jf aT 64);have d:=ai W0 (jf aT 64);obtain⟨W1,o⟩:=J (W0.alloc (jf aT 64));obtain⟨r,j⟩:=J w.heap.size;rw[<-o]at h d;have C:W0.heap.size=r+1:=by rw[g,j];simp
 rw[C]at h;rw[<-j]at f;have k:=Z f d;have D:=O h;have E:=O (b.trans (d.mono b.size));have F:jd (jA W1 K 3 (T A (x:ja))):=O (((b.trans (d.mono b.size)).block _ c.lt).trans c);have U:=O j;have bg:=O g;have Sw:=O o;have q:=ae (i:=0) k I;have M:=ae (i:=1) k I;clear y z u l he m t s f b g h d o C j c
 go_enter func113,ntmps113
 go_upto_region 1 with fail
 rw[<-bg,<-Sw,<-U]
 go_wp2_with fail
 refine(B e W1 HE F).mono ?_;rintro e2 z1 ⟨rfl,b⟩;rw[<-TY];have j:=Z k b;have g:=Z D b;have l:=ac E b;clear b q M k D E F B H;have d:=jw z1 (jf #[jo jr 0,jo jr 0,jo jr 0,jo jr 0,jo jr 0,jo jr 0,jo jr 0,jo jr 0,jo jr 0,jo jr 0,jo jr 0,jo jr 0,jo jr 0,jo jr 0,jo jr 0,jo jr 0,jo jr 0,jo jr 0,jo jr 0,jo jr 0,jo jr 0,jo jr 0,jo jr 0,jo jr 0] 245);have b:=ai z1 (jf #[jo jr 0,jo jr 0,jo jr 0,jo jr 0,jo jr 0,jo jr 0,jo jr 0,jo jr 0,jo jr 0,jo jr 0,jo jr 0,jo jr 0,jo jr 0,jo jr 0,jo jr 0,jo jr 0,jo jr 0,jo jr 0,jo jr 0,jo jr 0,jo jr 0,jo jr 0,jo jr 0,jo jr 0] 245);obtain⟨W2,h⟩:=J (z1.alloc (jf #[jo jr 0,jo jr 0,jo jr 0,jo jr 0,jo jr 0,jo jr 0,jo jr 0,jo jr 0,jo jr 0,jo jr 0,jo jr 0,jo jr 0,jo jr 0,jo jr 0,jo jr 0,jo jr 0,jo jr 0,jo jr 0,jo jr 0,jo jr 0,jo jr 0,jo jr 0,jo jr 0,jo jr 0] 245));obtain⟨D,f⟩:=J z1.heap.size;rw[<-h]at d b;rw[<-f]at d;have U5:jd (W2.heap[D]?=jb (jf (([]++jT 24 0#8).map v8).toArray 245 (0,0))):=O d;have Se:=Z g b;have RI:=ac l b;have M:jd (r+1<D):=O (by rw[f];exact(jL.1 g).1);have q:=ae (i:=0) (az j b) I;have bh:=O h;have HD:=O f;clear d b h f j g l
 go_upto_region 3 with fail
 rw[<-bh,<-HD]
 go_wp2_with fail
 have au:∀W:jh,(Instr.index 246 (jn #[T A p,T A a,T A v]) (T A 0)).run jk W=.ok (T A p) W:=λW=>by
  have s:=xy;unfold Instr.index;simp[asIntOf,sh s,part]
 have a1:∀W:jh,(Instr.index 246 (jn #[T A p,T A a,T A v]) (T A 1)).run jk W=.ok (T A a) W:=λW=>by
  have s:=xy;unfold Instr.index;simp[asIntOf,sh s,part]
 have a2:∀W:jh,(Instr.index 246 (jn #[T A p,T A a,T A v]) (T A 2)).run jk W=.ok (T A v) W:=λW=>by
  have s:=xy;unfold Instr.index;simp[asIntOf,sh s,part]
 clear q
 go_loopw [25] (λb wr=>∃i:ja,b=T A i/\i<=3/\jd (wr.heap[D]?=jb (jf ((cW ([p,a,v].take i)++jT (24-8*i) 0#8).map v8).toArray 245 (0,0)))/\jd (wr.heap[r+1]?=jb (jf aT 64 (0,0)))/\jd (ji w w wr)) (λb _=>(3-js b).toNat)
 case atStart=>exact⟨0,I,by omega,O U5,Se,RI⟩
 obtain⟨i,rfl,hi,Sz,ad,Q⟩:=hrel
 rcases(show i=0\/i=1\/i=2\/i=3 by omega)with rfl|rfl|rfl|rfl
 ·have a3:=HP.out
  have a4:qM.wrap (p:N)=(p:N):=by rw[qN];omega
  have a5:(0:N)<=(p:N):=Y;have ba:=au
  go_wp2_with fail
  go_loopw [29] (λg j=>∃k:ja,g=T A k/\k<=8/\jd (j.heap[D]?=jb (jf (((cW ([p,a,v].take 0)++beK p k)++jT (24-0-k) 0#8).map v8).toArray 245 (0,0)))/\jd (j.heap[r+1]?=jb (jf aT 64 (0,0)))/\jd (ji w w j)) (λg _=>(8-js g).toNat)
  case atStart=>exact⟨0,I,by omega,O (by rw[beK,km];exact Sz),ad,Q⟩
  obtain⟨k,rfl,Z9,d,t,u⟩:=hrel
  by_cases Zs:k<8
  ·have V:=ao ((k:N)<8)
   obtain⟨m,y⟩:∃m:ja,m=56-8*k:=⟨_,I⟩;have Vj:(56:N)-8*(k:N)=(m:N):=Y;have bb:m<=56:=Y;have bc:decide ((m:N)<0)=jj:=by simp
   have l:beK p (k+1)=beK p k++[mT 8 (p/2^m)]:=by rw[beK,y]
   obtain⟨b,c⟩:=J (mT 8 (p/2^m));rw[<-c]at l;have bd:jr.wrap ((p:N)/2^m)=(b.toNat:N):=by
    rw[c,qO,qP];have e:(p:N)/2^m=((p/2^m:ja):N):=by simp
    rw[e];omega
   obtain⟨P,f⟩:=J (cW ([p,a,v].take 0)++beK p k);have o:P.length=k:=by rw[f,jM,rG,ui];simp
   have z:cW ([p,a,v].take 0)++beK p (k+1)=P++[b]:=by rw[l,<-kl,f]
   rw[<-f]at d;have B:24-0-k=(24-0-(k+1))+1:=Y;rw[B]at d;obtain⟨⟨u3,bf⟩,VZ,C,E⟩:=cE (i:=k) (v8 b) d (by simp[o]);have F:(wr.setCell ⟨D,k,jc⟩ (v8 b)).heap[D]?=jb (jf (((P++[b])++jT (24-0-(k+1)) 0#8).map v8).toArray 245 (0,0)):=by
    rw[C,wx,<-w9,<-o,wK]
   have H:=O F;have q:=O E;have X:=O z;clear l c f o z B C F E y;unfold v8 at H q
   go_wp2_with fail
   refine⟨⟨k+1,by go_num,by omega,O (by rw[X];exact H),O ((q.block _ (aA M)).trans t),O (u.trans (q.below (eF M U)))⟩,by simp only[js];omega⟩
  have hk:k=8:=Y;have V:=ap ((k:N)<8);have h:=d.out;rw[hk,show cW ([p,a,v].take 0)++beK p 8=cW ([p,a,v].take (0+1))from(tL ([p,a,v].take 0) p).symm]at h;have VJ:=O h;clear h hk
  go_wp2_with fail
  refine⟨⟨0+1,by go_num,by omega,VJ,t,u⟩,by simp only[js];omega⟩
 ·have a3:=HU.out
  have a4:qM.wrap (a:N)=(a:N):=by rw[qN];omega
  have a5:(0:N)<=(a:N):=Y;have ba:=a1
  go_wp2_with fail
  go_loopw [29] (λg j=>∃k:ja,g=T A k/\k<=8/\jd (j.heap[D]?=jb (jf (((cW ([p,a,v].take 1)++beK a k)++jT (24-8-k) 0#8).map v8).toArray 245 (0,0)))/\jd (j.heap[r+1]?=jb (jf aT 64 (0,0)))/\jd (ji w w j)) (λg _=>(8-js g).toNat)
  case atStart=>exact⟨0,I,by omega,O (by rw[beK,km];exact Sz),ad,Q⟩
  obtain⟨k,rfl,Z9,d,t,u⟩:=hrel
  by_cases Zs:k<8
  ·have V:=ao ((k:N)<8)
   obtain⟨m,y⟩:∃m:ja,m=56-8*k:=⟨_,I⟩;have Vj:(56:N)-8*(k:N)=(m:N):=Y;have bb:m<=56:=Y;have bc:decide ((m:N)<0)=jj:=by simp
   have l:beK a (k+1)=beK a k++[mT 8 (a/2^m)]:=by rw[beK,y]
   obtain⟨b,c⟩:=J (mT 8 (a/2^m));rw[<-c]at l;have bd:jr.wrap ((a:N)/2^m)=(b.toNat:N):=by
    rw[c,qO,qP];have e:(a:N)/2^m=((a/2^m:ja):N):=by simp
    rw[e];omega
   obtain⟨P,f⟩:=J (cW ([p,a,v].take 1)++beK a k);have o:P.length=8+k:=by rw[f,jM,rG,ui];simp
   have z:cW ([p,a,v].take 1)++beK a (k+1)=P++[b]:=by rw[l,<-kl,f]
   rw[<-f]at d;have B:24-8-k=(24-8-(k+1))+1:=Y;rw[B]at d;obtain⟨⟨u3,bf⟩,VZ,C,E⟩:=cE (i:=8+k) (v8 b) d (by simp[o]);have F:(wr.setCell ⟨D,8+k,jc⟩ (v8 b)).heap[D]?=jb (jf (((P++[b])++jT (24-8-(k+1)) 0#8).map v8).toArray 245 (0,0)):=by
    rw[C,wx,<-w9,<-o,wK]
   have H:=O F;have q:=O E;have X:=O z;clear l c f o z B C F E y;unfold v8 at H q
   go_wp2_with fail
   refine⟨⟨k+1,by go_num,by omega,O (by rw[X];exact H),O ((q.block _ (aA M)).trans t),O (u.trans (q.below (eF M U)))⟩,by simp only[js];omega⟩
  have hk:k=8:=Y;have V:=ap ((k:N)<8);have h:=d.out;rw[hk,show cW ([p,a,v].take 1)++beK a 8=cW ([p,a,v].take (1+1))from(tL ([p,a,v].take 1) a).symm]at h;have VJ:=O h;clear h hk
  go_wp2_with fail
  refine⟨⟨1+1,by go_num,by omega,VJ,t,u⟩,by simp only[js];omega⟩
 ·have a3:=HV.out
  have a4:qM.wrap (v:N)=(v:N):=by rw[qN];omega
  have a5:(0:N)<=(v:N):=Y;have ba:=a2
  go_wp2_with fail
  go_loopw [29] (λg j=>∃k:ja,g=T A k/\k<=8/\jd (j.heap[D]?=jb (jf (((cW ([p,a,v].take 2)++beK v k)++jT (24-16-k) 0#8).map v8).toArray 245 (0,0)))/\jd (j.heap[r+1]?=jb (jf aT 64 (0,0)))/\jd (ji w w j)) (λg _=>(8-js g).toNat)
  case atStart=>exact⟨0,I,by omega,O (by rw[beK,km];exact Sz),ad,Q⟩
  obtain⟨k,rfl,Z9,d,t,u⟩:=hrel
  by_cases Zs:k<8
  ·have V:=ao ((k:N)<8)
   obtain⟨m,y⟩:∃m:ja,m=56-8*k:=⟨_,I⟩;have Vj:(56:N)-8*(k:N)=(m:N):=Y;have bb:m<=56:=Y;have bc:decide ((m:N)<0)=jj:=by simp
   have l:beK v (k+1)=beK v k++[mT 8 (v/2^m)]:=by rw[beK,y]
   obtain⟨b,c⟩:=J (mT 8 (v/2^m));rw[<-c]at l;have bd:jr.wrap ((v:N)/2^m)=(b.toNat:N):=by
    rw[c,qO,qP];have e:(v:N)/2^m=((v/2^m:ja):N):=by simp
    rw[e];omega
   obtain⟨P,f⟩:=J (cW ([p,a,v].take 2)++beK v k);have o:P.length=16+k:=by rw[f,jM,rG,ui];simp
   have z:cW ([p,a,v].take 2)++beK v (k+1)=P++[b]:=by rw[l,<-kl,f]
   rw[<-f]at d;have B:24-16-k=(24-16-(k+1))+1:=Y;rw[B]at d;obtain⟨⟨u3,bf⟩,VZ,C,E⟩:=cE (i:=16+k) (v8 b) d (by simp[o]);have F:(wr.setCell ⟨D,16+k,jc⟩ (v8 b)).heap[D]?=jb (jf (((P++[b])++jT (24-16-(k+1)) 0#8).map v8).toArray 245 (0,0)):=by
    rw[C,wx,<-w9,<-o,wK]
   have H:=O F;have q:=O E;have X:=O z;clear l c f o z B C F E y;unfold v8 at H q
   go_wp2_with fail
   refine⟨⟨k+1,by go_num,by omega,O (by rw[X];exact H),O ((q.block _ (aA M)).trans t),O (u.trans (q.below (eF M U)))⟩,by simp only[js];omega⟩
  have hk:k=8:=Y;have V:=ap ((k:N)<8);have h:=d.out;rw[hk,show cW ([p,a,v].take 2)++beK v 8=cW ([p,a,v].take (2+1))from(tL ([p,a,v].take 2) v).symm]at h;have VJ:=O h;clear h hk
  go_wp2_with fail
  refine⟨⟨2+1,by go_num,by omega,VJ,t,u⟩,by simp only[js];omega⟩
 have b:=rG [p,a,v];have d:=Sz.out;rw[show cW ([p,a,v].take 3)++jT (24-8*3) 0#8=cW [p,a,v]from km _]at d;have f:=pJ ⟨#[119,114,97,112]⟩ G _ (cW [p,a,v]) (by rw[b];simp) wr (ME (n:=24) d (by rw[b];rfl)) (al.below Q).num (al.below Q).start;rw[show((cS (aX ⟨#[119,114,97,112]⟩) (cW [p,a,v])).map v8).toArray=aa from by rw[TY];exact S.eq.symm]at f;have g:=O f;clear b d f au a1 a2
 go_wp2_with fail
 refine g.mono ?_;rintro e' f ⟨rfl,b⟩;have d:=Z ad b;have h:=ac Q b;clear b g
 go_wp2_with (refine j1 I λ_ b=>mb 64 _ _ I (r+1) aa I I 64 _ d.out (by rw[S.sz];rfl) (by rw[S.sz];rfl) S.one (b _ _ ?_))
 have b:(f.setRow (r+1) aa).heap[r+1]?=jb (jf aa 64 (0,0)):=jZ _ _ _ _ _ _ d.out;refine ms (rn I _ _ (r+1) 64 _ (0,0) _ I b ow I (by rw[S.sz];rfl)) I ?_;exact⟨I,j7 h.out (by rw[U];exact Nat.le_succ _) _⟩
def lu(a:N)(n:ja):Prop:=aW a/\16<=n/\n<=65552
noncomputable def lF(a:N)(n:ja):N:=by classical exact if lu a n then 0 else 90
theorem Dn(h:lu d b):lF d b=0:=by unfold lF;rw[ju h]
theorem tj(h:¬lu d b):lF d b=90:=by unfold lF;rw[jy h]
theorem El(a:N)(p:jR lo)(n c:ja)(u:n<4611686018427387904)(w:jh):
 jq jk 83 #[jn #[T A a,jg p n c]] w λe w'=>e=jp (T A (lF a n))/\ji w w w':=by
 have j:=jw w (jf #[T A a,jg p n c] 52);have l:=ai w (jf #[T A a,jg p n c] 52);have k:=O (fO a);obtain⟨d,b⟩:=J (b7 a);rw[<-b]at k;have o:jd (d=0->aW a):=O (λh=>by
  by_cases g:aW a
  ·exact g
  rw[b,fJ g]at h;exact jB h G)
 have q:jd (d≠0->¬aW a):=O (λh g=>h (by rw[b,eG g]));have s:=ae (i:=0) j I;have t:=ae (i:=1) j I;have m:=O l;obtain⟨r,g⟩:=J (lF a n);rw[<-g];have f:=O g;clear b g j l
 go_enter func83,ntmps83
 go_wp2_with fail
 refine(k _).mono ?_;rintro e v ⟨rfl,b⟩;have g:=ac m b;clear b k s t m
 by_cases b:d=0
 ·have k:decide (d=0)=jm:=by simp[b]
  have j:=o b;subst b
  by_cases s:n<16
  ·have l:=ao ((n:N)<16)
   obtain rfl:r=90:=by rw[f];exact tj (λh=>by have:=h.2.1;omega)
   go_wp2_with fail
   go_ret;exact⟨I,g⟩
  have l:=ap ((n:N)<16)
  by_cases t:65552<n
  ·have m:=ao ((65552:N)<(n:N))
   obtain rfl:r=90:=by rw[f];exact tj (λh=>by have:=h.2.2;omega)
   go_wp2_with fail
   go_ret;exact⟨I,g⟩
  have m:=ap ((65552:N)<(n:N));obtain rfl:r=0:=by rw[f];exact Dn ⟨j,by omega,by omega⟩
  clear j
  go_wp2_with fail
  go_ret;exact⟨I,g⟩
 have k:decide (d=0)=jj:=by simp[b]
 obtain rfl:r=90:=by rw[f];exact tj (λh=>q b h.1)
 have h:(d !=0)=jm:=ah b;have j:=O b;clear b
 go_wp2_with fail
 go_ret;exact⟨I,g⟩
def Aw:af:=jT 12 0#8
def kY(seed:af):ja:=tp seed ⟨#[119,114,97,112]⟩
def gO(a:ja)(seed b body:af):af:=ua (sV a (aR 4 (kY seed)) (aR a (kY seed))) Aw b body
theorem FA(b:ja)(s:aW b)(seed m body:af)(t:seed.length=32)(E:m.length<=70000)(F:body.length<=65536)(H K:jl)(w:jh)(M:aP w H m)(P:aP w K body)(Q:kr w):
 jq jk 46 #[T A b,jn (seed.map v8).toArray,H,K] w λe w'=>∃c,e=jp (jC #[jn #[T A (aR 4 (kY seed):ja),c],T A 0])/\w'.ownsRow w 5 1 c (body.length+16) ((gO b seed m body).map v8)/\ji w w w':=by
 obtain⟨o,u,R⟩:=Arr.mk' t;rw[<-u];have Vt:=O u;have Sc:=O R;have UX:=O t;have n:=O Q;have U:=O s;have v:=O (fO b);rw[eG s]at v;have ad:=O E;have Vf:=O F;have V:=O M;have W:=O P;obtain⟨r,x⟩:=J (kY seed);have y:=O x;have X:jd (r<2305843009213688669):=O (by rw[x];exact(yf _ _).2);obtain⟨d,a⟩:=J (aR 4 (kY seed));have aa:=O a;have ZI:jd (d<4611686018427377339):=O (by rw[a];exact uf _ _);rw[<-a];have f:=jw w (jf o 64);have g:=ai w (jf o 64);obtain⟨p,h⟩:=J (w.alloc (jf o 64));rw[<-h]at f g;have i:=jw p (jf #[T A 0,jg jc 0 0] 52);have k:=ai p (jf #[T A 0,jg jc 0 0] 52);obtain⟨W1,z⟩:=J (p.alloc (jf #[T A 0,jg jc 0 0] 52));obtain⟨j,l⟩:=J w.heap.size;rw[<-z]at i k;have S:p.heap.size=j+1:=by rw[h,l];simp
 rw[S]at i;rw[<-l]at f;have HK:=Z f k;have HR:=O i;have RD:=O (g.trans (k.mono g.size));have HG:=O l;have al:=O h;have Sw:=O z;obtain⟨ph,ch,rfl,-,-,-⟩:=M;obtain⟨B,C,rfl,-,-,-⟩:=P;obtain⟨hl,D⟩:=J m.length;obtain⟨bl,q⟩:=J body.length;rw[<-D]at V⊢;rw[<-q]at W;clear u R t Q s E F x a f g h i k z S l;have a3:=O D;have TJ:=O q;rw[show(Value.slice B body.length C)=jg B bl C from by rw[q]];clear D q
 go_enter func46,ntmps46
 go_wp2_with fail
 rw[<-al,<-Sw,<-HG];refine(v W1).mono ?_;rintro e R ⟨rfl,a⟩;have h:=Z HK a;have i:=Z HR a;have f:=ac RD a;clear a HK HR RD v
 go_upto_region 3 with fail
 refine mz ?_;refine n0 I 64 _ I j I 64 o (0,0) _ h.out ow I (by rw[Sc.sz];rfl) ?_
 go_wp2_with fail
 have g:=Fc seed UX ⟨#[119,114,97,112]⟩ G R (da.below ⟨n.num,n.start⟩ f);rw[<-Vt,show tp seed ⟨#[119,114,97,112]⟩=r from y.symm]at g;refine g.mono ?_;clear g;rintro e q ⟨rfl,a⟩;have l:=Z i a;have s:=ac f a;clear a h i f
 go_wp2_with fail
 obtain⟨x,h⟩:=J (q.alloc (jf #[T A (r:ja)] 3));obtain⟨f,i⟩:=J q.heap.size;have t:jA x f 3 (T A (r:ja)):=by rw[h,i];exact Boxed.new q _ _
 have a:=ai q (jf #[T A (r:ja)] 3);rw[<-h]at a⊢;rw[<-i];have u:=Z l a;have v:=ac s a;have k:=O t;clear a h i t l s;have g:=uq r X x;rw[show aR 4 r=d from by rw[y,aa]]at g;refine g.mono ?_;clear g;rintro e i ⟨rfl,a⟩;have z:=Z u a;have D:=ac v a;have h:jd (jA i f 3 (T A (r:ja))):=O ((a.block _ k.lt).trans k);clear a u v k;obtain⟨S,g⟩:=J (#[jo .i64 b,.func (.func 110) #[] #[jz (jb ⟨f,0,jc⟩)]]);have HS:=O g;have k:S.all (·.oneCell')=jm:=by rw[g];simp[kw]
 have l:S.size=2:=by rw[g];rfl
 have a4:=O k;have a5:=O l;clear g k l
 go_upto_region 6 with(refine j1 I λ_ t=>mb 170 _ _ I i.heap.size #[T A b,.func (.func 110) #[] #[jz (jb ⟨f,0,jc⟩)]] I I 170 #[T A 0,.nilFunc] (jw i _) ag aj (by simp[kw]) (t _ _ ?_))
 obtain⟨s,g⟩:=J ((i.alloc (jf #[T A 0,.nilFunc] 170)).setRow i.heap.size #[T A b,.func (.func 110) #[] #[jz (jb ⟨f,0,jc⟩)]]);obtain⟨E,k⟩:=J i.heap.size;have u:s.heap[E]?=jb (jf #[T A b,.func (.func 110) #[] #[jz (jb ⟨f,0,jc⟩)]] 170 (0,0)):=by rw[g,k];exact jZ _ _ _ _ _ _ (jw i _)
 have a:ji i i s:=by rw[g];exact j7 (ai i _) (jt _) _
 rw[<-g,<-k];have v:=Z z a;have l:=ac D a;have F:jd (jA s f 3 (T A (r:ja))):=O ((a.block _ h.lt).trans h);have Q:=O u;clear a g k u z D h;refine mz ?_;refine n0 I 170 _ I E I 170 #[T A b,.func (.func 110) #[] #[jz (jb ⟨f,0,jc⟩)]] (0,0) _ Q.out underlying170 I ag ?_
 go_wp2_with fail
 obtain⟨ba,g,k⟩:=Arr.mk' (wZ b d (aR b r));have h:=Jc _ r f (Qa r f X) b d b (bL U.2.1) (aA ZI) U s F (da.below ⟨n.num,n.start⟩ l);rw[<-g]at h;have D:=O g;refine h.mono ?_;clear h g k;rintro e w7 ⟨rfl,a⟩;have h:=Z v a;have g:=ac l a;clear a v l F Q
 go_wp2_with fail
 have k:=Ll (sV b d (aR b r)) Aw m body (jg ph hl ch) (jg B bl C) w7 (wZ _ _ _) I ad Vf (V.below g) (W.below g) (n.below g);rw[<-D]at k;refine k.mono ?_;clear k;rintro e u ⟨cv,rfl,v,a⟩;have z:=Z h a;have F:=O v;have Q:=O g.size;have au:=O h;have SX:=ac g a;obtain⟨k,l,rfl⟩:=a8 v;clear a h g v
 go_upto_region 9 with fail
 go_wp2_with (refine j1 I λ_ t=>mb 52 _ _ I (j+1) #[T A d,jg k (body.length+16) l] I I 52 _ z.out ag aj (by simp[kw]) (t _ _ ?_))
 have a:(u.setRow (j+1) #[T A d,jg k (body.length+16) l]).heap[j+1]?=jb (jf #[T A d,jg k (body.length+16) l] 52 (0,0)):=jZ _ _ _ _ _ _ z.out;have t:ji w w (u.setRow (j+1) #[T A d,jg k (body.length+16) l]):=j7 SX.out (by rw[HG];exact Nat.le_succ _) _;have v:(u.setRow (j+1) #[T A d,jg k (body.length+16) l]).ownsRow w.heap.size 5 1 (jg k (body.length+16) l) (body.length+16) ((gO b seed m body).map v8):=by
  have h:=F.out;rw[aa,y]at h;refine⟨h.1,?_⟩
  rcases h.2 with hn|⟨g,a1,R4,e,hb,hg,a2⟩
  ·exact .inl hn
  refine .inr ⟨g,a1,R4,e,jP Q hb,(jY _ _ _ _ ?_).trans hg,a2⟩;have:=(jL.1 au).1;omega
 exact bodyPost_ret_by (fq I _ _ (j+1) 52 #[T A d,jg k (body.length+16) l] (0,0) _ I a underlying52 I ag) I ⟨_,I,v,t⟩
def dH(x:N):Prop:=0<=x/\x<512
def fu(x:N):Prop:=0<=x/\x<16
instance(x:N):Decidable (dH x):=by unfold dH;infer_instance
instance(x:N):Decidable (fu x):=by unfold fu;infer_instance
theorem zx(x:N)(w:jh):
 jq jk 81 #[T A x] w λe w'=>e=jp (.bool (decide (dH x)))/\w=w':=by
 obtain⟨r,a⟩:=J (decide (dH x));rw[<-a]
 by_cases b:0<=x
 ·have c:=ao (0<=x)
  obtain rfl:r=decide (x<512):=by rw[a];simp[dH,b]
  clear a
  go_enter func81,ntmps81
  go_wp2
  go_ret;exact⟨I,I⟩
 have c:=ap (0<=x);obtain rfl:r=jj:=by rw[a];simp[dH,b]
 clear a
 go_enter func81,ntmps81
 go_wp2
 go_ret;exact⟨I,I⟩
theorem CI(x:N)(w:jh):
 jq jk 80 #[T A x] w λe w'=>e=jp (.bool (decide (fu x)))/\w=w':=by
 obtain⟨r,a⟩:=J (decide (fu x));rw[<-a]
 by_cases b:0<=x
 ·have c:=ao (0<=x)
  obtain rfl:r=decide (x<16):=by rw[a];simp[fu,b]
  clear a
  go_enter func80,ntmps80
  go_wp2
  go_ret;exact⟨I,I⟩
 have c:=ap (0<=x);obtain rfl:r=jj:=by rw[a];simp[fu,b]
 clear a
 go_enter func80,ntmps80
 go_wp2
 go_ret;exact⟨I,I⟩
def cT(x y:N):N:=if x<y then -1 else if y<x then 1 else 0
theorem Ai(x:N)(w:jh):
 jq jk 139 #[T A x] w λe w'=>e=jp (.bool jj)/\w=w':=by
 go_enter func139,ntmps139
 go_wp2
 go_ret;exact⟨by simp,I⟩
theorem zw(x y:N)(w:jh):
 jq jk 68 #[T A x,T A y] w λe w'=>e=jp (T A (cT x y))/\w=w':=by
 have d:=O (Ai x);have f:=O (Ai y);obtain⟨r,a⟩:=J (cT x y);rw[<-a];have b:=O a;clear a
 go_enter func68,ntmps68
 go_wp2_with fail
 refine(d _).mono ?_;rintro e g ⟨rfl,rfl⟩
 go_wp2_with fail
 refine(f _).mono ?_;rintro e g ⟨rfl,rfl⟩
 by_cases a:x<y
 ·have h:=ao (x<y)
  obtain rfl:r= -1:=by rw[b,cT,ju a]
  go_wp2_with fail
  go_ret;exact⟨I,I⟩
 have h:=ap (x<y)
 by_cases c:y<x
 ·have i:=ao (y<x)
  obtain rfl:r=1:=by rw[b,cT,jy a,ju c]
  go_wp2_with fail
  go_ret;exact⟨I,I⟩
 have i:=ap (y<x);obtain rfl:r=0:=by rw[b,cT,jy a,jy c]
 go_wp2_with fail
 go_ret;exact⟨I,I⟩
def aK.cells(m:aK):je jl:=[T A m.dev,T A m.since,T A m.ver]
theorem AZ(m:aK)(d:N)(w:jh):
 jq jk 164 #[jn m.cells.toArray,T A d] w λe w'=>e=jp (T A (cT m.dev d))/\ji w w w':=by
 obtain⟨md,b,c⟩:=m;unfold aK.cells;have a:=ai w (jf #[T A md,T A b,T A c] 43);have f:=O (zw md d);have g:=O a;clear a
 go_enter func164,ntmps164
 go_wp2_with fail
 refine(f _).mono ?_;rintro e a ⟨rfl,rfl⟩
 go_wp2_with fail
 go_ret;exact⟨I,g⟩
def mZ(w:jh)(v:jl)(l:je aK):Prop:=ay (λ_=>True) w v 3 l.length (l.flatMap aK.cells)
def bP:aK:=⟨0,0,0⟩
theorem mZ.below{v:jl}{l:je aK}(h:mZ w v l)(a:ji w w w'):mZ w' v l:=by
 obtain⟨b,p,c,d,f,i,k⟩:=h;refine⟨b,p,c,d,f,i,λm=>?_⟩;obtain⟨g,o,e,-,n⟩:=k m;exact⟨g,o,e,trivial,λj q r=>aB (n j q r) a⟩
def k6(l:je aK):Prop:=∀i j,i<j->j<l.length->(l.getD i bP).dev<(l.getD j bP).dev
theorem mZ.cells{v:jl}{l:je aK}(h:mZ w v l):∃p c,v=jg p l.length c/\l.length<=c/\(0<l.length->∃g o,p=jb ⟨g,o,jc⟩/\∀i,i<l.length->w.cell? ⟨g,o+i*3,jc⟩=jb (T A (l.getD i bP).dev)/\w.cell? ⟨g,o+i*3+1,jc⟩=jb (T A (l.getD i bP).since)/\w.cell? ⟨g,o+i*3+2,jc⟩=jb (T A (l.getD i bP).ver)):=by
 obtain⟨s,p,c,d,f,t,j⟩:=h;refine⟨p,c,d,f,λk=>?_⟩;obtain⟨g,o,e,-,a⟩:=j k;refine⟨g,o,e,λi m=>?_⟩;have b:l[i]?=jb (l.getD i bP):=by simp[jQ,m]
 have n:=a (i*3+0) _ ((flat_get aK.cells 3 (λ_=>rfl) l i 0 (l.getD i bP) b G).trans I);have q:=a (i*3+1) _ ((flat_get aK.cells 3 (λ_=>rfl) l i 1 (l.getD i bP) b G).trans I);have r:=a (i*3+2) _ ((flat_get aK.cells 3 (λ_=>rfl) l i 2 (l.getD i bP) b G).trans I);exact⟨n,q,r⟩
theorem AR{x y:jl}(b:a=x)(c:h=y):Ending.returned (jC #[a,h])=jp (jC #[x,y]):=by rw[b,c]
theorem eE{l:je u}(d:u)(h:b<l.length):l.getD b d=l[b]:=by simp[jQ,h]
def kL(l:je aK)(d:N):ja:=l.countP λm=>decide (m.dev<d)
def cN(l:je aK)(d:N):jE:=l.any λm=>m.dev==d
theorem vS{l:je aK}(h:k6 l){i j:ja}(a:i<=j)(b:j<l.length):(l.getD i bP).dev<=(l.getD j bP).dev:=by
 rcases Nat.eq_or_lt_of_le a with rfl|c
 ·exact Int.le_refl _
 exact Int.le_of_lt (h i j c b)
theorem y6(d:N):∀(l:je aK) (i:ja),i<=l.length->(∀t,t<i->(l.getD t bP).dev<d)->(∀t,i<=t->t<l.length->d<=(l.getD t bP).dev)->kL l d=i
 |[],i,b,_,_=>by simp at b;simp[kL,b]
 |a::r,0,_,_,c=>by
  unfold kL;rw[List.countP_eq_zero];intro x f;obtain⟨t,e,rfl⟩:=qe f;have:=c t (jS _) e;rw[eE _ e]at this;simp;omega
 |a::r,i+1,b,f,c=>by
  have h:a.dev<d:=by simpa using f 0 (Nat.succ_pos _)
  have g:=y6 d r i (ah b) (λt e=>by simpa using f (t+1) Y) (λt j e=>by simpa using c (t+1) Y (ah e));unfold kL at g⊢;rw[List.countP_cons_of_pos (ah h),g]
theorem JK{l:je aK}(h:∀t,t<l.length->(l.getD t bP).dev<d):cN l d=jj:=by
 unfold cN;rw[qf];intro x b;obtain⟨t,a,rfl⟩:=qe b;have:=h t a;rw[eE _ a]at this;simp;omega
theorem Hr(x y:N):(cT x y==0)=decide (x=y):=by
 unfold cT
 by_cases a:x<y
 ·rw[ju a];simp;omega
 rw[jy a]
 by_cases b:y<x
 ·rw[ju b];simp;omega
 rw[jy b];simp;omega
theorem Mc{l:je aK}{i:ja}(f:k6 l)(e:i<l.length)(h:∀t,t<i->(l.getD t bP).dev<d)(j:d<=(l.getD i bP).dev):cN l d=(cT (l.getD i bP).dev d==0):=by
 rw[Hr]
 by_cases he:(l.getD i bP).dev=d
 ·rw[jO he]
  unfold cN;refine qS.2 ⟨l.getD i bP,?_,by simpa using he⟩;rw[eE _ e];exact qs e
 rw[decide_eq_false he];unfold cN;rw[qf];intro x c;obtain⟨t,b,rfl⟩:=qe c;have c:l[t].dev≠d->¬((l[t].dev==d)=jm):=λh=>by simpa using h
 apply c
 rcases Nat.lt_trichotomy t i with a|a|a
 ·have:=h t a;rw[eE _ b]at this;omega
 ·subst a;rw[eE _ b]at he;exact he
 have g:=f i t a b;rw[eE _ b]at g;omega
theorem Qx(l:je aK)(f:k6 l)(v:jl)(d:N)(w:jh)(h:mZ w v l)(U:l.length<=1000000):
 jq jk 163 #[v,T A d,.func (.func 164) #[] #[]] w λe w'=>e=jp (jC #[T A (kL l d:ja),.bool (cN l d)])/\ji w w w':=by
 obtain⟨p,c,rfl,u,s⟩:=h.cells;have R:=O s;have M:=O f;obtain⟨n,b⟩:=J l.length;have a:=O b;rw[<-b]at U u⊢;clear s f h b;have EG:∀args w,(oi 164 args).run jk w=.ok (.enter 164 args) w:=λ_ _=>rfl
 go_enter func163,ntmps163
 go_wp2_with fail
 go_loopw [9,10] (λb f wr=>∃i j:ja,b=T A i/\f=T A j/\i<=j/\j<=n/\jd ((∀t,t<i->(l.getD t bP).dev<d)/\∀t,j<=t->t<n->d<=(l.getD t bP).dev)/\jd (ji w w wr)) (λb f _=>(js f-js b).toNat)
 case atStart=>exact⟨0,n,I,I,jS _,jt _,O ⟨λt P=>jB P Y,λt z F=>jB z Y⟩,O (jG _ _)⟩
 obtain⟨i,j,rfl,rfl,aa,V,x,b⟩:=hrel
 by_cases ad:i<j
 ·have W:=ao ((i:N)<(j:N))
  obtain⟨m,q⟩:∃m:ja,m=(i+j)/2:=⟨_,I⟩;have Ut:i<=m:=Y;have al:m<j:=Y;have e1:((i:N)+(j:N))/2=(m:N):=Y;obtain⟨g,o,rfl,s⟩:=R.out (by rw[<-a];omega);obtain⟨f,h,k⟩:=s m (by rw[<-a];omega);replace f:=aB f b;replace h:=aB h b;replace k:=aB k b;have r:=O (AZ (l.getD m bP) d);obtain⟨md,B,C,y⟩:∃md B C,l.getD m bP=⟨md,B,C⟩:=⟨_,_,_,I⟩;rw[y]at f h k r;have X:=O y;unfold aK.cells at r;clear s q y
  go_wp2_with fail
  refine(r wr).mono ?_;rintro e w1 ⟨rfl,D⟩;have H:=ac b D;clear D r f h k;obtain⟨q,E⟩:=J (cT md d);rw[<-E];have S:=O x;have K:(l.getD m bP).dev=md:=by rw[X]
  by_cases u:md<d
  ·obtain rfl:q= -1:=by rw[E,cT,ju u]
   have Q:jd ((∀t,t<m+1->(l.getD t bP).dev<d)/\∀t,j<=t->t<n->d<=(l.getD t bP).dev):=O ⟨λt P=>Int.lt_of_le_of_lt (vS M (show t<=m by omega) (by rw[<-a];omega)) (by rw[K];exact u),S.2⟩;clear E u K
   go_wp2_with fail
   exact⟨⟨m+1,j,by go_num,rfl,by omega,by omega,Q,H⟩,by simp only[js];omega⟩
  have au:0<=q:=by rw[E,cT,jy u];split<;>omega
  have a1:=ap (q<0);have Q:jd ((∀t,t<i->(l.getD t bP).dev<d)/\∀t,m<=t->t<n->d<=(l.getD t bP).dev):=O ⟨S.1,λt z F=>Int.le_trans (show d<=(l.getD m bP).dev by rw[K];omega) (vS M z (by rw[<-a];exact F))⟩;clear E u K
  go_wp2_with fail
  exact⟨⟨i,m,I,by go_num,by omega,by omega,Q,H⟩,by simp only[js];omega⟩
 obtain rfl:i=j:=Y;have W:decide ((i:N)<(i:N))=jj:=by simp
 have q:kL l d=i:=y6 d l i (by rw[<-a];exact V) x.1 (λt z F=>x.2 t z (by rw[a];exact F))
 by_cases E:i<n
 ·have S:=ao ((i:N)<(n:N))
  obtain⟨g,o,rfl,s⟩:=R.out (by rw[<-a];omega);obtain⟨f,h,k⟩:=s i (by rw[<-a];omega);replace f:=aB f b;replace h:=aB h b;replace k:=aB k b;have r:=O (AZ (l.getD i bP) d);have m:=Mc (l:=l) (d:=d) (i:=i) M.out (by rw[<-a];exact E) x.1 (x.2 i (jt _) E);obtain⟨md,B,C,y⟩:∃md B C,l.getD i bP=⟨md,B,C⟩:=⟨_,_,_,I⟩;rw[y]at f h k r m;have K:jd (cN l d=(cT md d==0)):=O m;have Q:=O q;unfold aK.cells at r;clear s y m q
  go_wp2_with fail
  refine(r wr).mono ?_;rintro e w1 ⟨rfl,D⟩;have H:=ac b D;clear D r f h k
  go_wp2_with fail
  go_ret2;exact⟨AR (jv (λn:ja=>jo .i64 (n:N)) Q.symm) (jv qg K.symm),H⟩
 have S:=ap ((i:N)<(n:N));have m:cN l d=jj:=JK (λt P=>x.1 t (by rw[a]at E;omega));have K:=O m;have Q:=O q;clear m q
 go_wp2_with fail
 go_ret2;exact⟨AR (jv (λn:ja=>jo .i64 (n:N)) Q.symm) (jv qg K.symm),b⟩
section
variable{a b c g:ja}{W w:jh}
open Go.RowKit Go.Maps Go.Sort
theorem df{P:jU}{b:jD j0}{c:Exit->Act->jh->Prop}{a:Act}{w:jh}{d:je j0}{o:j0}{v:jl}(e:Region.wanted o (yielded b a.tmps)=jm)
 (h:(execOp a.eval o).run P w=.ok (.value v) w) (f:wpList P b c d (a.put o.dst v) w):wpList P b c (o::d) a w:=
 wpList_step λK k=>by
  rw[ju e];unfold Oper.wp;rw[h];exact k _ _ f
theorem ku{a b:jE}(h:a=b):Ending.returned (.bool a)=jp (.bool b):=by rw[h]
theorem F9(n m:N):(n !=m)=decide (n≠m):=by by_cases h:n=m<;>simp[h]
structure EK(α:Type) where
 cells:α->je jl
 k:ja
 t:jH
 pos:0<k
 len:∀x,(cells x).length=k
 one:∀x,∀v∈cells x,v.oneCell'=jm
section
variable {α:Type} (E:EK α)
def EK.flat(l:je α):je jl:=l.flatMap E.cells
theorem EK.flat_length(l:je α):(E.flat l).length=l.length*E.k:=by
 unfold EK.flat;exact Go.Proofs.YtdjkajodkjfjlaaGreatDoor.flat_length E.cells E.k E.len l
theorem EK.flat_append(l m:je α):E.flat (l++m)=E.flat l++E.flat m:=by unfold EK.flat;exact List.flatMap_append
theorem EK.flat_one(x:α):E.flat [x]=E.cells x:=by simp[EK.flat]
theorem EK.flat_cons(x:α)(l:je α):E.flat (x::l)=E.cells x++E.flat l:=by simp[EK.flat]
theorem EK.flat_get(l:je α)(j i:ja)(x:α)(h:l[j]?=jb x)(a:i<E.k):(E.flat l)[j*E.k+i]?=(E.cells x)[i]?:=
 Go.Proofs.YtdjkajodkjfjlaaGreatDoor.flat_get E.cells E.k E.len l j i x h a
theorem EK.flat_take(l:je α)(i:ja):E.flat (l.take i)=(E.flat l).take (i*E.k):=by
 rcases pa i l.length with h|h
 ·have a:(E.flat (l.take i)).length=i*E.k:=by rw[E.flat_length,j6,ol (xa h)]
  have:=List.take_left' (l₂:=E.flat (l.drop i)) a;rw[<-E.flat_append,qT]at this;exact this.symm
 rw[jV h,jV (by rw[E.flat_length];exact pz _ h)]
theorem EK.flat_drop(l:je α)(i:ja):E.flat (l.drop i)=(E.flat l).drop (i*E.k):=by
 rcases pa i l.length with h|h
 ·have a:(E.flat (l.take i)).length=i*E.k:=by rw[E.flat_length,j6,ol (xa h)]
  have:=List.drop_left' (l₂:=E.flat (l.drop i)) a;rw[<-E.flat_append,qT]at this;exact this.symm
 rw[tb h,tb (by rw[E.flat_length];exact pz _ h)]
 rfl
theorem EK.flat_one'(l:je α):∀a∈E.flat l,a.oneCell'=jm:=by
 intro a b;unfold EK.flat at b;obtain⟨x,-,c⟩:=xJ.1 b;exact E.one x a c
theorem EK.flat_set{d:je α}{e:α}(i:a<d.length):E.flat (d.set a e)=(E.flat d).take (a*E.k)++E.cells e++(E.flat d).drop (a*E.k+E.k):=by
 rw[List.set_eq_take_append_cons_drop,ju i,E.flat_append,E.flat_cons,E.flat_take,E.flat_drop,show(a+1)*E.k=a*E.k+E.k by rw[Nat.add_mul];omega,kl]
def EK.At(w:jh)(v:jl)(l:je α):Prop:=cO w v E.k l.length (E.flat l)
variable {E}
theorem EK.At.below{w':jh}{v:jl}{l:je α}(h:E.At w v l)(a:ji w w w'):E.At w' v l:=cO.below h a
theorem EK.At.of_own{B:ja}{v:jl}{l:je α}(h:w.ownsRow B E.t E.k v l.length (E.flat l)):E.At w v l:=cO.of_own h
theorem EK.At.of_sl{D:ja->Prop}{v:jl}{l:je α}(h:ay D w v E.k l.length (E.flat l)):E.At w v l:=h.row
theorem EK.At.form{d:jl}{l:je α}(h:E.At w d l):∃p c,d=jg p l.length c/\l.length<=c/\(p=jc->c=0):=by
 obtain⟨_,p,c,e,a,b,_⟩:=h;exact⟨p,c,e,a,b⟩
theorem EK.At.nil:E.At w (jg jc 0 0) []:=⟨by simp[EK.flat],jc,0,I,jt _,λ_=>rfl,λh=>jB h (Nat.lt_irrefl _)⟩
theorem EK.At.cells{p:jR lo}{n:ja}{l:je α}(h:E.At w (jg p n c) l):n=l.length/\n<=c/\(0<n->∃g o,p=jb ⟨g,o,jc⟩/\∀j x,l[j]?=jb x->∀i a,(E.cells x)[i]?=jb a->w.cell? ⟨g,o+j*E.k+i,jc⟩=jb a):=by
 obtain⟨_,v,y,e,d,z,f⟩:=h;injection e with k m q
 subst k;subst m;subst q;refine⟨I,d,λr=>?_⟩;obtain⟨g,o,e,s⟩:=f r;refine⟨g,o,e,λj x t i a b=>?_⟩;have u:i<E.k:=by rw[<-E.len x];exact(oo.1 b).1
 rw[Nat.add_assoc];exact s (j*E.k+i) a ((E.flat_get l j i x t u).trans b)
theorem dF{l:je α}{j:ja}(h:j<l.length):∃x,l[j]?=jb x/\l.take (j+1)=l.take j++[x]:=
 ⟨l[j],lm h,qt h⟩
variable (E)
structure cY(a:ja)(w W:jh)(g n c:ja)(d:je α):Prop where
 own:W.ownsRow a E.t E.k (jg (jb ⟨g,0,jc⟩) n c) n (E.flat d)
 len:n=d.length
 bel:ji a w W
 sz:a<=w.heap.size
variable {E}
theorem cY.later{n:jh}{d:je α}(h:cY E a w W g b c d)(e:ji W W n):cY E a w n g b c d:=
 ⟨dx h.own e,h.len,h.bel.trans (e.mono (jP h.sz (bL h.bel.size))),h.sz⟩
theorem cY.lt{d:je α}(h:cY E a w W g b c d):a<=g/\g<W.heap.size:=h.own.lt g I
theorem cY.cap{d:je α}(h:cY E a w W g b c d):b<=c:=by
 rcases h.own.2 with⟨e,_⟩|⟨i,j,k,e,l,m,n,_⟩
 ·cases e
 injection e with o p f
 subst f;exact n
theorem cY.at{n:ja}{d:je α}(h:cY E a w W g n c d):E.At W (jg (jb ⟨g,0,jc⟩) n c) d:=EK.At.of_own (by rw[<-h.len];exact h.own)
theorem mP(h:ji a w W)(b:a<=g)(cs:jD jl):ji a w (W.setRow g cs):=
 h.trans ⟨rfl,rfl,rfl,by simp[qD],λk hk=>jY _ _ _ _ Y⟩
theorem cY.store{P:jU}{i:ja}{d:je α}(h:cY E a w W g b c d)(r:i<b)(e:α)(m:jH)(s:(P.info? m).map (·.size)=jb E.k):
 ∃j,(storeVar m ⟨g,0+i*E.k,jc⟩ (jn (E.cells e).toArray)).run P W=.ok () j/\cY E a w j g b c (d.set i e)/\(∀k,k≠g->j.heap[k]?=W.heap[k]?)/\W.heap.size<=j.heap.size:=by
 obtain⟨Q,z⟩:=h.own
 rcases z with⟨o,_⟩|⟨R,S,q,o,t,u,v,B,x,C⟩
 ·cases o
 injection o with f U D
 injection f with f
 injection f with f
 subst f;subst D;have V:i*E.k+E.k<=b*E.k:=by rw[<-Nat.succ_mul];exact pz _ r
 have F:b*E.k<=c*E.k:=pz _ v;have X:b*E.k<=q.size:=by rw[x];exact F
 have n:(E.cells e).length=E.k:=E.len e;have y:(storeCells ⟨g,i*E.k,jc⟩ (E.cells e) 0).run P W=.ok () (W.setRow g (q.toList.take (i*E.k)++E.cells e++q.toList.drop (i*E.k+(E.cells e).length)).toArray):=
  run_storeCells_at (P:=P) g (i*E.k) E.t (E.cells e) 0 q W u (by rw[n];omega) (E.one e)
 have p:q.toList.length=c*E.k:=by rw[o4];exact x
 rw[n]at y;refine⟨W.setRow g (q.toList.take (i*E.k)++E.cells e++q.toList.drop (i*E.k+E.k)).toArray,?_,⟨⟨by rw[E.flat_length,qU,<-h.len],.inr ⟨g,c,(q.toList.take (i*E.k)++E.cells e++q.toList.drop (i*E.k+E.k)).toArray,I,t,jZ _ _ _ _ _ _ u,v,B,?_,?_⟩⟩,by rw[qU];exact h.len,mP h.bel t _,h.sz⟩,λk hk=>jY _ _ _ _ hk,by simp[qD]⟩
 ·cases hq:P.info? m with
  |none=>simp[hq]at s
  |some H=>
   have K:H.size=E.k:=by simpa [hq]using s
   rw[jI];have M:(wq (E.cells e).toArray).cells=(E.cells e).toArray:=I;simp[storeVar,sizeOf,typeInfo,hq,M,K,n,y]
 ·simp only[j3,jM,j6,xK,p,n]
  omega
 rw[E.flat_set (by rw[<-h.len];exact r),<-C];show List.take (b*E.k) (q.toList.take (i*E.k)++E.cells e++q.toList.drop (i*E.k+E.k))=_;rw[xd,ol Y,List.take_append,jV (l:=q.toList.take (i*E.k)++E.cells e) (by simp only[jM,j6,p,n];omega),List.drop_take];simp only[jM,j6,p,n];rw[ol Y]
theorem A6{P:jU}{f:j0}{a:Act}{w:jh}{K:Act->jh->Prop}{m:Exit->Act->jh->Prop}(j:jH)(x y:Operand)(o:f.op=.store j x y)
 {l:ja} {W:jh} {g n c i:ja} {d:je α} (h:cY E l W w g n c d) (p:i<n) (e:α) (q:(P.info? j).map (·.size)=jb E.k)
 (r:a.eval x=jz (jb ⟨g,0+i*E.k,jc⟩)) (s:a.eval y=jn (E.cells e).toArray)
 (t:∀b,cY E l W b g n c (d.set i e)->(∀k,k≠g->b.heap[k]?=w.heap[k]?)->w.heap.size<=b.heap.size->K (a.put f.dst jJ) b):f.wp P a w K m:=by
 obtain⟨b,k,u,v,z⟩:=h.store p e j q;unfold Oper.wp execOp;simp only[o,r,s,Instr.storeAt,Instr.sureAddr,Sem.run_bind,Sem.run_pure,Result.andThen_ok,k];exact t b u v z
theorem cY.clear{P:jU}{q:ja}{n i:ja}{d:je α}(h:cY E q w W g n c d)(B:i<n)(t e:jH)(C:P.underlying t=jb (.slice e))(z:α)(D:∀w,(zeroValue e).run P w=.ok (jn (E.cells z).toArray) w):
 ∃r,(∀s,(Builtin.clear_ #[t] s #[jg (jb ⟨g,0+i*E.k,jc⟩) (n-i) (c-i)]).run P W=.ok (jC #[]) r)/\cY E q w r g i c (d.take i):=by
 obtain⟨V,F⟩:=h.own
 rcases F with⟨o,_⟩|⟨X,aa,b,o,u,x,H,K,k,M⟩
 ·cases o
 injection o with f e2 Q
 injection f with f
 injection f with f
 subst f;subst Q;have y:b.toList.length=c*E.k:=by rw[o4];exact k
 have p:(Builtin.zeroCells (E.cells z).toArray (n-i)).toList.length=(n-i)*E.k:=by
  rw[o4,size_zeroCells,j3,E.len]
 obtain⟨a,l⟩:=J ((Builtin.zeroCells (E.cells z).toArray (n-i)).toList);have R:∀v∈a,v.oneCell'=jm:=by
  intro v m;rw[l]at m;unfold Builtin.zeroCells at m;rw[Array.toList_map]at m;obtain⟨j,-,rfl⟩:=jN.1 m;have k:j%(E.cells z).toArray.size<(E.cells z).toArray.size:=qu _ (by rw[j3,E.len];exact E.pos);rw[getElem!_pos (E.cells z).toArray _ k];exact E.one z _ ax
 rw[<-l]at p;have ad:(n-i)*E.k=n*E.k-i*E.k:=Nat.sub_mul n i E.k;have al:n*E.k<=c*E.k:=pz _ H;have au:i*E.k<=n*E.k:=pz _ (xa B);have j:(storeCells ⟨g,i*E.k,jc⟩ a 0).run P W=.ok () (W.setRow g (b.toList.take (i*E.k)++a++b.toList.drop (i*E.k+a.length)).toArray):=
  run_storeCells_at (P:=P) g (i*E.k) E.t a 0 b W x (by rw[p,k];omega) R
 refine⟨W.setRow g (b.toList.take (i*E.k)++a++b.toList.drop (i*E.k+a.length)).toArray,?_,⟨⟨by rw[E.flat_length,j6,<-h.len,ol Y],.inr ⟨g,c,(b.toList.take (i*E.k)++a++b.toList.drop (i*E.k+a.length)).toArray,I,u,jZ _ _ _ _ _ _ x,by omega,K,?_,?_⟩⟩,by rw[j6,<-h.len,ol Y],mP h.bel u _,h.sz⟩⟩
 ·obtain⟨m,S⟩:∃m,n-i=m+1:=⟨n-i-1,by omega⟩
  have U:(wq (E.cells z).toArray).cells=(E.cells z).toArray:=I;intro s;rw[jI];rw[S]at l⊢;simp[Builtin.clear_,sh C,D,U,<-l,j]
 ·simp only[j3,jM,j6,xK,y,p]
  omega
 show List.take (i*E.k) (b.toList.take (i*E.k)++a++b.toList.drop (i*E.k+a.length))=_;rw[E.flat_take,<-M,xd,kl,List.take_append_of_le_length (by simp only[j6,y];omega),xd,Nat.min_self,ol Y]
end
theorem bH{p q:Prop}(k:q)(h:q->p:=by intro k;refine df (v:=?_) (by rfl) ?_ ?_;rotate_left;(go_simp;with_reducible rfl);refine L ?_;exact k):p:=h k
end
section
variable{p:aK->jE}{a:ak->jE}{m:jD jl}{b f:ja}{z:jh->Prop}
open Go.RowKit Go.Maps Go.Sort
theorem Br{P:jU}(t e:jH)(k:ja)(b:P.underlying t=jb (.slice e))(d:∀w,(sizeOf e).run P w=.ok k w)(g o n c l:ja)(f:l<=n)(i:n<=c):
 ∃a,(0<n-l->a=⟨g,o+l*k,jc⟩)/\∀W,(Instr.sliceAt t (jg (jb ⟨g,o,jc⟩) n c) (jb (T A (l:N))) jc jc).run P W=.ok (jg (jb a) (n-l) (c-l)) W:=by
 have he:P.elem t=e:=by simp[Program.elem,b]
 refine⟨if c=l then⟨g,o,jc⟩else⟨g,o+l*k,jc⟩,λh=>by rw[jy Y],λW=>?_⟩;rw[run_sliceAt_slice W t _ _ _ _ (by rw[he];exact b),run_slice_l W t _ n c (by rw[he];exact b) .i64 _ Y Y,he];simp[d,Result.andThen,sliced,Addr.add]
 by_cases h:c=l
 ·simp[h]
 simp[h]
theorem C7{P:jU}(t e:jH)(k:ja)(a:P.underlying t=jb (.slice e))(b:∀w,(sizeOf e).run P w=.ok k w)(g o n c h:ja)(d:h<=c)(W:jh):
 (Instr.sliceAt t (jg (jb ⟨g,o,jc⟩) n c) jc (jb (T A (h:N))) jc).run P W=.ok (jg (jb ⟨g,o,jc⟩) h c) W:=by
 have he:P.elem t=e:=by simp[Program.elem,a]
 rw[run_sliceAt_slice W t _ _ _ _ (by rw[he];exact a),run_slice_h W t _ n c (by rw[he];exact a) .i64 _ Y Y,he];simp[b,Result.andThen,sliced,Addr.add]
section
variable {α:Type}
structure fW(E:EK α)(a:ja)(d:jD jl)(b:ja)(c:jh->Prop)(p:α->jE):Prop where
 enter:∀args w,(oi a args).run jk w=.ok (.enter a args) w
 keep:∀w w',b<=w.heap.size->c w->ji b w w'->c w'
 call:∀x w,b<=w.heap.size->c w->jq jk a (#[jn (E.cells x).toArray]++d) w λe w'=>e=jp (.bool (p x))/\ji w w w'
def sM(p:α->jE)(l:je α)(r:N):Prop:=(r= -1/\∀x∈l,p x=jj)\/∃(k:ja) (x:α),r=k/\l[k]?=jb x/\p x=jm/\∀y∈l.take k,p y=jj
theorem sM.any{p:α->jE}{l:je α}{r:N}(h:sM p l r):decide (0<=r)=l.any p:=by
 rcases h with⟨rfl,h⟩|⟨k,x,rfl,a,b,d⟩
 ·have:l.any p=jj:=by rw[qf];intro x c;rw[h x c];simp
  rw[this];decide
 have:l.any p=jm:=qS.2 ⟨x,jX a,b⟩;rw[this];simp
theorem uC{p:α->jE}{l:je α}(h:∀x∈l,p x=jj):l.filter (λx=> !p x)=l:=
 List.filter_eq_self.2 λx a=>by rw[h x a];rfl
end
def rl:ak:=⟨0,0,0,0,0⟩
def EM:EK aK:=⟨aK.cells,3,43,by decide,λ_=>rfl,λx v a=>by simp[aK.cells]at a;rcases a with rfl|rfl|rfl<;>rfl⟩
def EC:EK ak:=⟨ak.cells,5,47,by decide,λ_=>rfl,λx v a=>by simp[ak.cells]at a;rcases a with rfl|rfl|rfl|rfl|rfl<;>rfl⟩
theorem p8:(jk.info? 43).map (·.size)=jb 3:=by kernel_rfl
theorem rJ:(jk.info? 47).map (·.size)=jb 5:=by kernel_rfl
theorem AI:(jk.info? 43).map (λi=>(i.zero,i.size,i.bytes))=jb (jb (jn #[T A 0,T A 0,T A 0]),3,24):=by kernel_rfl
theorem OO:(jk.info? 47).map (λi=>(i.zero,i.size,i.bytes))=jb (jb (jn #[T A 0,T A 0,T A 0,T A 0,T A 0]),5,40):=by kernel_rfl
theorem mm{P:jU}{t:jH}{z:jl}(h:(P.info? t).map (λi=>(i.zero,i.size,i.bytes))=jb (jb z,f,b)):∃i,P.info? t=jb i/\i.zero=jb z/\i.size=f/\i.bytes=b:=by
 cases hi:P.info? t with
 |none=>rw[hi]at h;cases h
 |some i=>
  rw[hi]at h;simp only[wi,Option.some.injEq,Prod.mk.injEq]at h;exact⟨i,I,h.1,h.2.1,h.2.2⟩
theorem yw(a:fW EM f m b z p)(l:je aK)(v:jl)(w:jh)(h:EM.At w v l)(d:z w)(g:b<=w.heap.size)(M:l.length<=1000000):
 jq jk 137 #[v,.func (.func f) #[] m] w λe w'=>∃r,e=jp (T A r)/\sM p l r/\ji w w w':=by
 obtain⟨q,c,rfl,P,-⟩:=h.form;have B:=O h;have EG:=a.enter;have C:=O a;have Q:=O d;have s:=O g;obtain⟨n,u⟩:=J l.length;have D:=O u;rw[<-u]at M P B⊢;clear h u a d g
 go_enter func137,ntmps137
 go_wp2_with fail
 go_loopw [8] (λi wr=>∃k:ja,i=T A k/\k<=n/\jd (∀y∈l.take k,p y=jj)/\jd (ji w w wr)) (λi _=>n-(js i).toNat)
 case atStart=>exact⟨0,I,jS _,O ax,O (jG _ _)⟩
 obtain⟨k,rfl,hk,i,a⟩:=hrel
 by_cases R:k<n
 ·have S:=ao ((k:N)<(n:N))
  have U:=ao (k<n);obtain⟨e,he,x⟩:=dF (l:=l) (j:=k) (by rw[<-D];exact R);obtain⟨g,o,rfl,d⟩:=(B.cells).2.2 Y;have u:=O (C.call e wr (jP s a.size) (C.keep _ _ s.out Q (a.mono s)));obtain⟨r,t⟩:=J (p e);rw[<-t]at u;have E:=O t;have V:=O x;have W:=O he;obtain⟨F,H,K⟩:=e;have X:wr.cell? ⟨g,o+k*3,jc⟩=jb (T A F):=aB (d k _ he 0 _ I) a;have c1:wr.cell? ⟨g,o+k*3+1,jc⟩=jb (T A H):=aB (d k _ he 1 _ I) a;have c2:wr.cell? ⟨g,o+k*3+2,jc⟩=jb (T A K):=aB (d k _ he 2 _ I) a;replace u:jd (jq jk f (#[jn #[T A F,T A H,T A K]]++m) wr λe w'=>e=jp (.bool r)/\ji wr wr w'):=u;clear d he x t
  go_wp2_with fail
  refine(u).mono ?_;rintro x w1 ⟨rfl,d⟩;have t:=ac a d;clear d u X c1 c2
  rcases r with _|_
  ·go_wp2_with fail
   exact⟨⟨k+1,by go_num,by omega,O (by
    rw[V];intro y u
    rcases nn.1 u with u|u
    ·exact i y u
    rw[p6]at u;rw[u];exact E.symm),t⟩,by simp only[js];omega⟩
  go_wp2_with fail
  go_ret;exact⟨_,I,.inr ⟨k,_,I,W,E.symm,i⟩,t⟩
 have S:=ap ((k:N)<(n:N));have U:=ap (k<n);obtain rfl:k=n:=Y
 go_wp2_with fail
 go_ret;exact⟨_,I,.inl ⟨I,by have h:=i.out;rw[jV (by rw[<-D];exact jt _)]at h;exact h⟩,a⟩
theorem D4(k:fW EM f m b z p)(l:je aK)(v:jl)(w:jh)(h:EM.At w v l)(a:z w)(g:b<=w.heap.size)(i:l.length<=1000000):
 jq jk 95 #[v,.func (.func f) #[] m] w λe w'=>e=jp (.bool (l.any p))/\ji w w w':=by
 have j:=O (yw k l v w h a g i);clear h a g i
 go_enter func95,ntmps95
 go_wp2_with fail
 refine(j).mono ?_;rintro x c ⟨r,rfl,a,g⟩;have h:=O a.any;have i:=O g;clear a g j
 go_wp2_with fail
 go_ret;exact⟨ku h,i⟩
theorem Nt(l:je aK)(v:jl)(w:jh)(d:EM.At w v l)(q:l.length<=1000000):
 jq jk 65 #[v] w λe w'=>∃h,e=jp h/\w'.ownsRow w EM.t EM.k h l.length (EM.flat l)/\ji w w w':=by
 obtain⟨p,c,rfl,r,i⟩:=d.form;obtain⟨s,t,u,x,y⟩:=mm AI;have E:∀(w:jh) (a:jR lo) (n c n' f:ja),(binOp .eql 24 (jg a n c) (jg jc n' f)).run jk w=.ok (.bool a.isNone) w:=λw a n c n' f=>Lib.run_eql_slice_nil w _ _ a n c n' f qk
 rcases p with _|a
 ·have j:=i I
  have b:l.length=0:=Y;have g:l=[]:=xL.1 b;subst g
  go_enter func65,ntmps65
  go_wp2_with fail
  go_ret;exact⟨_,I,kn _ _ _ _,jG _ _⟩
 obtain⟨n,j⟩:=J l.length;have b:=O (d.below (ai w (jf #[] EM.t)));have g:=O (xf (base:=w.heap.size) (size:=EM.k) (e:=EM.t) w #[] 0 (jt _) (by unfold j8;omega) ax);have k:=O (ai w (jf #[] EM.t));unfold EK.At at b;rw[<-j]at r q b⊢;clear d j i
 go_enter func65,ntmps65
 go_wp2_with (at_builtin;refine Hid.out ?_)
 refine O ?_;refine j1 I λ_ i=>?_
 refine Gk _ _ 24 I w.heap.size 43 s (jn #[T A 0,T A 0,T A 0]) 3 24 qk t u x y I G _ _ _ I g _ _ _ I b (EM.flat_one' _) (by unfold j8;omega) Y (by rw[jK];omega) ?_;intro z m d o;have B:jd (m.ownsRow w EM.t EM.k z n (EM.flat l)):=O (by rw[jI]at d;exact d);have C:jd (ji w w m):=O (k.grown o (by rw[jK];omega) (λj D=>by have:=(g.lt j D).1;omega));clear d o g k b;refine i _ _ ?_;clear i
 go_wp2_with fail
 go_ret;exact⟨_,I,B,C⟩
theorem LR(a:fW EM f m b z p)(l:je aK)(g n c:ja)(w:jh)(h:cY EM b w w g n c l)(d:z w)(hl:n<=1000000):
 jq jk 64 #[jg (jb ⟨g,0,jc⟩) n c,.func (.func f) #[] m] w λe w'=>∃n',e=jp (jg (jb ⟨g,0,jc⟩) n' c)/\cY EM b w w' g n' c (l.filter λx=> !p x):=by
 have i:=O h;have j:=O (yw a l (jg (jb ⟨g,0,jc⟩) n c) w h.at d h.sz (by rw[<-h.len];exact hl));have a2:=h.cap;have E:=O h.len;have EG:=a.enter;have HP:=O a;have a3:=O d;have Sb:=O h.sz;clear h a d
 go_enter func64,ntmps64
 go_wp2_with fail
 refine(j).mono ?_;rintro e w1 ⟨r,rfl,o,v⟩;have al:=O (i.later v);clear v j i
 rcases o with⟨rfl,au⟩|⟨k,e,rfl,he,d,i⟩
 ·have a:=O (uC au)
  clear au
  go_wp2_with fail
  go_ret;exact⟨_,I,by rw[a];exact al⟩
 have a4:k<n:=by rw[E];exact(oo.1 he).1
 have a5:jd (l.take k=(l.take (k+1)).filter (λx=> !p x)):=O (by
  obtain⟨C,a,q⟩:=dF (l:=l) (j:=k) (by rw[<-E];exact a4);rw[he]at a;injection a with a
  subst a;rw[q,qa,uC i,qV (by rw[d];simp),qh,km])
 have bg:decide ((k:N)= -1)=jj:=by simp
 have bh:((k:N)== -1)=jj:=by simp
 clear he d i
 go_wp2_with fail
 go_loopw [5,6] (λC a wr=>∃(i j:ja) (d:je aK),C=T A i/\a=T A j/\i<j/\j<=n/\jd (d.take i=(l.take j).filter (λx=> !p x))/\jd (d.drop j=l.drop j)/\jd (cY EM b w wr g n c d)) (λ_ a _=>n-(js a).toNat)
 case atStart=>exact⟨k,k+1,l,I,by go_num,by omega,by omega,a5,O rfl,al⟩
 obtain⟨i,j,d,rfl,rfl,ba,hj,B,Q,C⟩:=hrel
 by_cases R:j<n
 case neg=>
  obtain rfl:j=n:=Y;have hd:=decide_eq_false (show ¬((j:N)<(j:N)) by omega);have Sm:=decide_eq_false R;obtain⟨H,s,D⟩:=Br (P:=jk) 24 43 3 qk sizeOf43 g 0 j c i Y a2;rw[s Y,jI]at D;have K:=C7 (P:=jk) 24 43 3 qk sizeOf43 g 0 j c i Y;obtain⟨t,a,u⟩:=C.clear (P:=jk) ba 24 43 qk bP zeroValue43;rw[jI]at a;have F:jd (cY EM b w t g i c (l.filter λx=> !p x)):=O (by
   have y:=B.out;rw[jV (l:=l) (by rw[<-E];exact jt _)]at y;rw[<-y];exact u)
  replace a:∀y,(Builtin.clear_ #[24] y #[jg (jb ⟨g,i*3,jc⟩) (j-i) (c-i)]).run jk wr=.ok (jC #[]) t:=a;clear u s
  go_wp2_with fail
  go_ret;exact⟨_,I,F⟩
 have hd:=jO (show((j:N)<(n:N)) by omega);have Sm:=jO R;obtain⟨e,he,q⟩:=dF (l:=l) (j:=j) (by rw[<-E];exact R);have F:d[j]?=jb e:=by
  have h:=jv (λD:je aK=>D[0]?) Q;simp only[xM,xg]at h;rw[h];exact he
 have S:d.drop (j+1)=l.drop (j+1):=by
  have h:=jv (List.drop 1) Q;rw[qW,qW]at h;exact h
 have bb:i<n:=Y;have bc:=C.len;have D:jd (p e=jm->d.take i=(l.take (j+1)).filter (λx=> !p x)):=O λU=>by
  rw[q,qa,qV (by rw[U];simp),qh,km];exact B
 have H:jd (p e=jj->(d.set i e).take (i+1)=(l.take (j+1)).filter (λx=> !p x)):=O λU=>by
  rw[q,qa,xN (by rw[U];rfl),qh,<-B,qt (by rw[qU];omega),xO,sv (jt _)]
 have a1:jd ((d.set i e).drop (j+1)=l.drop (j+1)):=O (by rw[sx Y];exact S);have UY:=O S;obtain⟨ga,oa,V,K⟩:=(C.at.cells).2.2 Y;injection V with V
 injection V with bd bf
 subst bd;subst bf;have X:=ai wr (jf (EM.cells e).toArray 43);have hX:=jw wr (jf (EM.cells e).toArray 43);obtain⟨r,o⟩:=J (p e);have M:jd (∀W,b<=W.heap.size->z W->jq jk f (#[jn (EM.cells e).toArray]++m) W λx w'=>x=jp (.bool r)/\ji W W w'):=O (by rw[o];exact HP.call e);have HR:=O o;obtain⟨B0,aa⟩:∃y:aK,y=e:=⟨_,I⟩;have ad:=O aa;rw[<-aa]at D H a1 HR X hX;have HA:=O X;have a:=O hX;obtain⟨s,t,u⟩:=e;have c0:wr.cell? ⟨g,j*3,jc⟩=jb (T A s):=by have h:=K j _ F 0 _ I;rw[jI]at h;exact h
 have c1:wr.cell? ⟨g,j*3+1,jc⟩=jb (T A t):=by have h:=K j _ F 1 _ I;rw[jI]at h;exact h
 have c2:wr.cell? ⟨g,j*3+2,jc⟩=jb (T A u):=by have h:=K j _ F 2 _ I;rw[jI]at h;exact h
 replace M:jd (∀W,b<=W.heap.size->z W->jq jk f (#[jn #[T A s,T A t,T A u]]++m) W λx w'=>x=jp (.bool r)/\ji W W w'):=M;clear he q F S bc B Q K o X hX aa
 go_upto_region 8 with fail
 obtain⟨B,v⟩:=J wr.heap.size;have Q:wr.alloc (jf #[T A s,T A t,T A u] 43)=wr.alloc (jf (EM.cells B0).toArray 43):=by rw[ad];rfl
 rw[Q,<-v];rw[<-v]at a;obtain⟨K,S⟩:=J (wr.alloc (jf (EM.cells B0).toArray 43));rw[<-S]at HA a⊢;have F:=O (C.later HA);have aa:B<K.heap.size:=(jL.1 a).1;have ZA:g≠B:=by have:=C.lt;omega
 have W:=O (HP.keep _ _ Sb.out a3 F.bel);have X:jd (b<=K.heap.size):=O (jP Sb F.bel.size);rw[ad]at a;replace a:jd (K.heap[B]?=jb (jf #[T A s,T A t,T A u] 43 (0,0))):=a;have b0:=ae (i:=0) a I;have b1:=ae (i:=1) a I;have b2:=ae (i:=2) a I;clear Q v S C HA c0 c1 c2
 go_wp2_with fail
 refine(M _ X.out W).mono ?_;rintro x S ⟨rfl,v⟩;have Q:=O (F.later v);have C:=O ((v.block B aa).trans a);clear M F a v W X b0 b1 b2
 cases r with
 |true=>
  have a:=O (D HR.symm);clear D H
  go_wp2_with fail
  exact⟨⟨i,j+1,d,I,by go_num,by omega,by omega,a,UY,Q⟩,by simp only[js];omega⟩
 |false=>
  have a:=O (H HR.symm);clear D H;have b0:=ae (i:=0) C I;have b1:=ae (i:=1) C I;have b2:=ae (i:=2) C I;have H:=jO (show((i:N)<(n:N)) by omega)
  go_wp2_with (refine j1 I λ_ v=>A6 43 _ _ I Q bb ⟨s,t,u⟩ p8 (by rw[jI];rfl) I λD F M W=>v _ _ ?_)
  have v:jd (cY EM b w D g n c (d.set i B0)):=O (by rw[ad];exact F);exact⟨⟨i+1,j+1,d.set i B0,by go_num,by go_num,by omega,by omega,a,a1,v⟩,by simp only[js];omega⟩
theorem zl(p:fW EC f m b z a)(l:je ak)(v:jl)(w:jh)(h:EC.At w v l)(d:z w)(g:b<=w.heap.size)(Q:l.length<=1000000):
 jq jk 136 #[v,.func (.func f) #[] m] w λe w'=>∃r,e=jp (T A r)/\sM a l r/\ji w w w':=by
 obtain⟨q,c,rfl,R,-⟩:=h.form;have B:=O h;have EG:=p.enter;have C:=O p;have S:=O d;have s:=O g;obtain⟨n,u⟩:=J l.length;have D:=O u;rw[<-u]at Q R B⊢;clear h u p d g
 go_enter func136,ntmps136
 go_wp2_with fail
 go_loopw [8] (λi wr=>∃k:ja,i=T A k/\k<=n/\jd (∀y∈l.take k,a y=jj)/\jd (ji w w wr)) (λi _=>n-(js i).toNat)
 case atStart=>exact⟨0,I,jS _,O ax,O (jG _ _)⟩
 obtain⟨k,rfl,hk,i,p⟩:=hrel
 by_cases U:k<n
 ·have V:=ao ((k:N)<(n:N))
  have W:=ao (k<n);obtain⟨e,he,x⟩:=dF (l:=l) (j:=k) (by rw[<-D];exact U);obtain⟨g,o,rfl,u⟩:=(B.cells).2.2 Y;have d:=O (C.call e wr (jP s p.size) (C.keep _ _ s.out S (p.mono s)));obtain⟨r,t⟩:=J (a e);rw[<-t]at d;have E:=O t;have X:=O x;have HE:=O he;obtain⟨F,H,K,M,P⟩:=e;have c0:wr.cell? ⟨g,o+k*5,jc⟩=jb (T A F):=aB (u k _ he 0 _ I) p;have c1:wr.cell? ⟨g,o+k*5+1,jc⟩=jb (T A H):=aB (u k _ he 1 _ I) p;have c2:wr.cell? ⟨g,o+k*5+2,jc⟩=jb (T A K):=aB (u k _ he 2 _ I) p;have c3:wr.cell? ⟨g,o+k*5+3,jc⟩=jb (T A M):=aB (u k _ he 3 _ I) p;have c4:wr.cell? ⟨g,o+k*5+4,jc⟩=jb (T A P):=aB (u k _ he 4 _ I) p;replace d:jd (jq jk f (#[jn #[T A F,T A H,T A K,T A M,T A P]]++m) wr λe w'=>e=jp (.bool r)/\ji wr wr w'):=d;clear u he x t
  go_wp2_with fail
  refine(d).mono ?_;rintro x w1 ⟨rfl,u⟩;have t:=ac p u;clear u d c0 c1 c2 c3 c4
  rcases r with _|_
  ·go_wp2_with fail
   exact⟨⟨k+1,by go_num,by omega,O (by
    rw[X];intro y u
    rcases nn.1 u with u|u
    ·exact i y u
    rw[p6]at u;rw[u];exact E.symm),t⟩,by simp only[js];omega⟩
  go_wp2_with fail
  go_ret;exact⟨_,I,.inr ⟨k,_,I,HE,E.symm,i⟩,t⟩
 have V:=ap ((k:N)<(n:N));have W:=ap (k<n);obtain rfl:k=n:=Y
 go_wp2_with fail
 go_ret;exact⟨_,I,.inl ⟨I,by have h:=i.out;rw[jV (by rw[<-D];exact jt _)]at h;exact h⟩,p⟩
theorem FU(k:fW EC f m b z a)(l:je ak)(v:jl)(w:jh)(h:EC.At w v l)(p:z w)(g:b<=w.heap.size)(i:l.length<=1000000):
 jq jk 62 #[v,.func (.func f) #[] m] w λe w'=>e=jp (.bool (l.any a))/\ji w w w':=by
 have j:=O (zl k l v w h p g i);clear h p g i
 go_enter func62,ntmps62
 go_wp2_with fail
 refine(j).mono ?_;rintro x c ⟨r,rfl,p,g⟩;have h:=O p.any;have i:=O g;clear p g j
 go_wp2_with fail
 go_ret;exact⟨ku h,i⟩
theorem Gb(l:je ak)(v:jl)(w:jh)(d:EC.At w v l)(q:l.length<=1000000):
 jq jk 43 #[v] w λe w'=>∃h,e=jp h/\w'.ownsRow w EC.t EC.k h l.length (EC.flat l)/\ji w w w':=by
 obtain⟨p,c,rfl,r,i⟩:=d.form;obtain⟨s,t,u,x,y⟩:=mm OO;have E:∀(w:jh) (a:jR lo) (n c n' f:ja),(binOp .eql 30 (jg a n c) (jg jc n' f)).run jk w=.ok (.bool a.isNone) w:=λw a n c n' f=>Lib.run_eql_slice_nil w _ _ a n c n' f ql
 rcases p with _|a
 ·have j:=i I
  have b:l.length=0:=Y;have g:l=[]:=xL.1 b;subst g
  go_enter func43,ntmps43
  go_wp2_with fail
  go_ret;exact⟨_,I,kn _ _ _ _,jG _ _⟩
 obtain⟨n,j⟩:=J l.length;have b:=O (d.below (ai w (jf #[] EC.t)));have g:=O (xf (base:=w.heap.size) (size:=EC.k) (e:=EC.t) w #[] 0 (jt _) (by unfold j8;omega) ax);have k:=O (ai w (jf #[] EC.t));unfold EK.At at b;rw[<-j]at r q b⊢;clear d j i
 go_enter func43,ntmps43
 go_wp2_with (at_builtin;refine Hid.out ?_)
 refine O ?_;refine j1 I λ_ i=>?_
 refine Gk _ _ 30 I w.heap.size 47 s (jn #[T A 0,T A 0,T A 0,T A 0,T A 0]) 5 40 ql t u x y I G _ _ _ I g _ _ _ I b (EC.flat_one' _) (by unfold j8;omega) Y (by rw[jK];omega) ?_;intro z m d o;have B:jd (m.ownsRow w EC.t EC.k z n (EC.flat l)):=O (by rw[jI]at d;exact d);have C:jd (ji w w m):=O (k.grown o (by rw[jK];omega) (λj D=>by have:=(g.lt j D).1;omega));clear d o g k b;refine i _ _ ?_;clear i
 go_wp2_with fail
 go_ret;exact⟨_,I,B,C⟩
theorem KE(p:fW EC f m b z a)(l:je ak)(g n c:ja)(w:jh)(h:cY EC b w w g n c l)(d:z w)(hl:n<=1000000):
 jq jk 119 #[jg (jb ⟨g,0,jc⟩) n c,.func (.func f) #[] m] w λe w'=>∃n',e=jp (jg (jb ⟨g,0,jc⟩) n' c)/\cY EC b w w' g n' c (l.filter λx=> !a x):=by
 have i:=O h;have j:=O (zl p l (jg (jb ⟨g,0,jc⟩) n c) w h.at d h.sz (by rw[<-h.len];exact hl));have a3:=h.cap;have K:=O h.len;have EG:=p.enter;have HP:=O p;have a4:=O d;have Sb:=O h.sz;clear h p d
 go_enter func119,ntmps119
 go_wp2_with fail
 refine(j).mono ?_;rintro e w1 ⟨r,rfl,s,E⟩;have au:=O (i.later E);clear E j i
 rcases s with⟨rfl,a1⟩|⟨k,e,rfl,he,d,i⟩
 ·have p:=O (uC a1)
  clear a1
  go_wp2_with fail
  go_ret;exact⟨_,I,by rw[p];exact au⟩
 have a5:k<n:=by rw[K];exact(oo.1 he).1
 have ba:jd (l.take k=(l.take (k+1)).filter (λx=> !a x)):=O (by
  obtain⟨F,p,t⟩:=dF (l:=l) (j:=k) (by rw[<-K];exact a5);rw[he]at p;injection p with p
  subst p;rw[t,qa,uC i,qV (by rw[d];simp),qh,km])
 have bh:decide ((k:N)= -1)=jj:=by simp
 have bk:((k:N)== -1)=jj:=by simp
 clear he d i
 go_wp2_with fail
 go_loopw [5,6] (λF p wr=>∃(i j:ja) (d:je ak),F=T A i/\p=T A j/\i<j/\j<=n/\jd (d.take i=(l.take j).filter (λx=> !a x))/\jd (d.drop j=l.drop j)/\jd (cY EC b w wr g n c d)) (λ_ p _=>n-(js p).toNat)
 case atStart=>exact⟨k,k+1,l,I,by go_num,by omega,by omega,ba,O rfl,au⟩
 obtain⟨i,j,d,rfl,rfl,bb,hj,B,S,F⟩:=hrel
 by_cases U:j<n
 case neg=>
  obtain rfl:j=n:=Y;have hd:=decide_eq_false (show ¬((j:N)<(j:N)) by omega);have Sm:=decide_eq_false U;obtain⟨C,o,y⟩:=Br (P:=jk) 30 47 5 ql sizeOf47 g 0 j c i Y a3;rw[o Y,jI]at y;have D:=C7 (P:=jk) 30 47 5 ql sizeOf47 g 0 j c i Y;obtain⟨q,p,u⟩:=F.clear (P:=jk) bb 30 47 ql rl zeroValue47;rw[jI]at p;have H:jd (cY EC b w q g i c (l.filter λx=> !a x)):=O (by
   have v:=B.out;rw[jV (l:=l) (by rw[<-K];exact jt _)]at v;rw[<-v];exact u)
  replace p:∀v,(Builtin.clear_ #[30] v #[jg (jb ⟨g,i*5,jc⟩) (j-i) (c-i)]).run jk wr=.ok (jC #[]) q:=p;clear u o
  go_wp2_with fail
  go_ret;exact⟨_,I,H⟩
 have hd:=jO (show((j:N)<(n:N)) by omega);have Sm:=jO U;obtain⟨e,he,t⟩:=dF (l:=l) (j:=j) (by rw[<-K];exact U);have o:d[j]?=jb e:=by
  have h:=jv (λH:je ak=>H[0]?) S;simp only[xM,xg]at h;rw[h];exact he
 have V:d.drop (j+1)=l.drop (j+1):=by
  have h:=jv (List.drop 1) S;rw[qW,qW]at h;exact h
 have bc:i<n:=Y;have bd:=F.len;have M:jd (a e=jm->d.take i=(l.take (j+1)).filter (λx=> !a x)):=O λX=>by
  rw[t,qa,qV (by rw[X];simp),qh,km];exact B
 have Q:jd (a e=jj->(d.set i e).take (i+1)=(l.take (j+1)).filter (λx=> !a x)):=O λX=>by
  rw[t,qa,xN (by rw[X];rfl),qh,<-B,qt (by rw[qU];omega),xO,sv (jt _)]
 have a2:jd ((d.set i e).drop (j+1)=l.drop (j+1)):=O (by rw[sx Y];exact V);have UY:=O V;obtain⟨ga,oa,aa,q⟩:=(F.at.cells).2.2 Y;injection aa with aa
 injection aa with bf bg
 subst bf;subst bg;have hA:=ai wr (jf (EC.cells e).toArray 47);have hX:=jw wr (jf (EC.cells e).toArray 47);obtain⟨r,s⟩:=J (a e);have R:jd (∀W,b<=W.heap.size->z W->jq jk f (#[jn (EC.cells e).toArray]++m) W λx w'=>x=jp (.bool r)/\ji W W w'):=O (by rw[s];exact HP.call e);have HR:=O s;obtain⟨B0,ad⟩:∃y:ak,y=e:=⟨_,I⟩;have al:=O ad;rw[<-ad]at M Q a2 HR hA hX;have HA:=O hA;have p:=O hX;obtain⟨u,v,H,C,D⟩:=e;have c0:wr.cell? ⟨g,j*5,jc⟩=jb (T A u):=by have h:=q j _ o 0 _ I;rw[jI]at h;exact h
 have c1:wr.cell? ⟨g,j*5+1,jc⟩=jb (T A v):=by have h:=q j _ o 1 _ I;rw[jI]at h;exact h
 have c2:wr.cell? ⟨g,j*5+2,jc⟩=jb (T A H):=by have h:=q j _ o 2 _ I;rw[jI]at h;exact h
 have c3:wr.cell? ⟨g,j*5+3,jc⟩=jb (T A C):=by have h:=q j _ o 3 _ I;rw[jI]at h;exact h
 have c4:wr.cell? ⟨g,j*5+4,jc⟩=jb (T A D):=by have h:=q j _ o 4 _ I;rw[jI]at h;exact h
 replace R:jd (∀W,b<=W.heap.size->z W->jq jk f (#[jn #[T A u,T A v,T A H,T A C,T A D]]++m) W λx w'=>x=jp (.bool r)/\ji W W w'):=R;clear he t o V bd B S q s hA hX ad
 go_upto_region 8 with fail
 obtain⟨B,E⟩:=J wr.heap.size;have S:wr.alloc (jf #[T A u,T A v,T A H,T A C,T A D] 47)=wr.alloc (jf (EC.cells B0).toArray 47):=by rw[al];rfl
 rw[S,<-E];rw[<-E]at p;obtain⟨q,V⟩:=J (wr.alloc (jf (EC.cells B0).toArray 47));rw[<-V]at HA p⊢;have o:=O (F.later HA);have ad:B<q.heap.size:=(jL.1 p).1;have ZA:g≠B:=by have:=F.lt;omega
 have W:=O (HP.keep _ _ Sb.out a4 o.bel);have Su:jd (b<=q.heap.size):=O (jP Sb o.bel.size);rw[al]at p;replace p:jd (q.heap[B]?=jb (jf #[T A u,T A v,T A H,T A C,T A D] 47 (0,0))):=p;have b0:=ae (i:=0) p I;have b1:=ae (i:=1) p I;have b2:=ae (i:=2) p I;have b3:=ae (i:=3) p I;have b4:=ae (i:=4) p I;clear S E V F HA c0 c1 c2 c3 c4
 go_wp2_with fail
 refine(R _ Su.out W).mono ?_;rintro x V ⟨rfl,F⟩;have S:=O (o.later F);have E:=O ((F.block B ad).trans p);clear R o p F W Su b0 b1 b2 b3 b4
 cases r with
 |true=>
  have p:=O (M HR.symm);clear M Q
  go_wp2_with fail
  exact⟨⟨i,j+1,d,I,by go_num,by omega,by omega,p,UY,S⟩,by simp only[js];omega⟩
 |false=>
  have p:=O (Q HR.symm);clear M Q;have b0:=ae (i:=0) E I;have b1:=ae (i:=1) E I;have b2:=ae (i:=2) E I;have b3:=ae (i:=3) E I;have b4:=ae (i:=4) E I;have Q:=jO (show((i:N)<(n:N)) by omega)
  go_wp2_with (refine j1 I λ_ F=>A6 47 _ _ I S bc ⟨u,v,H,C,D⟩ rJ (by rw[jI];rfl) I λo M R W=>F _ _ ?_)
  have F:jd (cY EC b w o g n c (d.set i B0)):=O (by rw[al];exact M);exact⟨⟨i+1,j+1,d.set i B0,by go_num,by go_num,by omega,by omega,p,a2,F⟩,by simp only[js];omega⟩
end
theorem LL{H:N}(h:∀e∈t.take b,e.1≠d)(c:t.take (b+1)=t.take b++[(o,H)])(x:o≠d):∀e∈t.take (b+1),e.1≠d:=by
 intro e he;rw[c]at he
 rcases nn.1 he with k|k
 ·exact h e k
 rw[p6.1 k];exact x
theorem QT(h:∀e∈t,e.1≠d):aN t d=jc:=by
 unfold aN;rw[xP.2 (λy a=>by simpa using h y a)]
 rfl
theorem Ig(h:∀e∈t.take b,e.1≠d)(a:t.take (b+1)=t.take b++[(d,o)]):aN t d=jb o:=by
 have e:t=t.take b++((d,o)::t.drop (b+1)):=by
  have:=qT (b+1) t;rw[a,kl]at this;exact this.symm
 unfold aN;rw[e,List.find?_append,xP.2 (λy k=>by simpa using h y k)];simp
theorem Lf(t:je (N×N))(v:jl)(x:N)(w:jh)(b:bp w v t)(r:t.length<=1000000):
 jq jk 158 #[jn #[v],T A x] w λe w'=>e=jp (jC #[T A ((aN t x).getD 0),.bool (aN t x).isSome])/\ji w w w':=by
 have d:ji w w (w.alloc (jf #[v] 27)):=(jG _ w).alloc (jt _) _;obtain⟨p,c,rfl,s,-,f,g⟩:=b;have u:=O f;have y:=O g;have a:jA (w.alloc (jf #[jg p t.length c] 27)) w.heap.size 27 (jg p t.length c):=jw w _;have z:w.heap.size<(w.alloc (jf #[jg p t.length c] 27)).heap.size:=by simp
 obtain⟨B,h⟩:=J (w.alloc (jf #[jg p t.length c] 27));clear f g
 go_enter func158,ntmps158
 go_wp2_with fail
 rw[<-h]at a z d⊢;have f:=O d;obtain⟨n,g⟩:=J t.length;have j:=O g;rw[<-g]at s r a⊢;have H:=a.cell;have K:=a.frozen;clear h d g a
 go_loopw [6] (λi wr=>∃k:ja,i=T A k/\k<=n/\jd (∀e∈t.take k,e.1≠x)/\wr=B) (λi _=>n-(js i).toNat)
 case atStart=>exact⟨0,I,jS _,O (λe h=>by simp at h),I⟩
 obtain⟨k,rfl,hk,d,rfl⟩:=hrel
 by_cases C:k<n
 ·have D:=ao ((k:N)<(n:N))
  have E:=ao (k<n);obtain⟨g,o,rfl,i⟩:=u.out (by rw[<-j];omega);obtain⟨a,q,M,P,-,-,-,b,-⟩:=mD i y.out (by rw[<-j];exact C) f;have m:=O b;clear i b
  by_cases i:a=x
  ·subst i
   have l:=O (Ig d m)
   go_wp2_with fail
   go_ret2;exact⟨by rw[l];rfl,f⟩
  have Q:=ap (a=x);have R:(a==x)=jj:=by simp;omega
  have F:=O (LL d m i);clear i
  go_wp2_with fail
  exact⟨⟨k+1,by go_num,by omega,F,by trivial⟩,by simp only[js];omega⟩
 have D:=ap ((k:N)<(n:N));have E:=ap (k<n);obtain rfl:k=n:=Y;have l:jd (aN t x=jc):=O (QT (by have h:=d.out;rw[jV (by rw[<-j];exact jt _)]at h;exact h))
 go_wp2_with fail
 go_ret2;exact⟨by rw[l];rfl,f⟩
def Und(n a:N):Prop:=1<=a/\∃j:ja,n/2^j=a
noncomputable def dE(n a:N):jE:=by classical exact decide (Und n a)
theorem kO(h:Und d o):dE d o=jm:=by unfold dE;simpa using h
theorem tl(h:¬Und d o):dE d o=jj:=by unfold dE;simpa using h
theorem tG(n a:N):dE n a=jm↔Und n a:=by unfold dE;simp
theorem mK(h:1<=d):Und d d:=⟨h,0,by simp⟩
theorem KO(h:d<1):¬Und d o:=by
 rintro⟨c,j,n⟩;have b:(0:N)<2^j:=by exact_mod_cast xQ j
 have e:d/2^j<=0:=by
  rcases Int.lt_or_le d 0 with h|h
  ·exact Int.le_of_lt (Int.ediv_neg_of_neg_of_pos h b)
  rw[show d=0 by omega,Int.zero_ediv];exact Int.le_refl _
 omega
theorem NL{n a:N}(h:n≠a):Und n a↔Und (n/2) a:=by
 have e:∀j:ja,n/2^(j+1)=n/2/2^j:=λj=>by
  rw[Int.pow_succ,Int.mul_comm,<-Int.ediv_ediv_of_nonneg G]
 constructor
 ·rintro⟨c,j,b⟩
  refine⟨c,?_⟩
  rcases j with _|j
  ·exact jB (ah b) h
  exact⟨j,by rw[<-e];exact b⟩
 rintro⟨c,j,b⟩;exact⟨c,j+1,by rw[e];exact b⟩
theorem II(n a:N)(b:aH n)(w:jh):
 jq jk 86 #[.int .i64 n,.int .i64 a] w λe w'=>e=.returned (.bool (dE n a))/\w=w':=by
 have c:n<=9223372036854775807:=by
  have h:=b;simp[aH,Lit.wf,IntKind.min,IntKind.max,IntKind.signed,IntKind.bits]at h;omega
 clear b
 go_enter func86,ntmps86
 go_wp2
 go_loop [5] (λs=>∃m:N,s=.int .i64 m/\m<=9223372036854775807/\jd (dE m a=dE n a)) (λs=>(js s).toNat)
 case atStart=>exact⟨n,I,c,O I⟩
 obtain⟨m,rfl,l,d⟩:=hrel;clear c
 by_cases f:1<=m
 ·have g:=ao ((1:N)<=m)
  by_cases c:m=a
  ·have i:(m==a)=jm:=by simp;omega
   have j:=ao (m=a);have b:jd (dE n a=jm):=O (by rw[<-d];exact kO (by rw[c];exact mK Y));clear c
   go_wp2
   go_ret;exact⟨by rw[b];rfl,rfl⟩
  have i:(m==a)=jj:=by simp;omega
  have j:=ap (m=a);have b:jd (dE (m/2) a=dE n a):=O (by
   rw[<-d];have h:=NL (n:=m) (a:=a) c
   cases hb:dE m a with
   |true=>exact kO (h.1 ((tG _ _).1 hb))
   |false=>exact tl (λk=>by have:=kO (h.2 k);rw[hb]at this;cases this))
  clear c;obtain⟨k,rfl⟩:=m0 (show 0<=m by omega)
  go_wp2
  refine⟨⟨(k:N)/2,jv (jo .i64) Y,by omega,b⟩,by simp only[js];omega⟩
 have g:=ap ((1:N)<=m);have b:jd (dE n a=jj):=O (by rw[<-d];exact tl (KO Y));clear f
 go_wp2
 go_ret;exact⟨by rw[b];rfl,rfl⟩
theorem M7(t:je (N×N))(v:jl)(x:N)(w:jh)(f:bp w v t)(g:t.length<=1000000):
 jq jk 87 #[jn #[v],T A x] w λe w'=>e=jp (.bool (!(aN t x).isSome))/\ji w w w':=by
 have a:ji w w (w.alloc (jf #[v] 27)):=(jG _ w).alloc (jt _) _;have b:=O (Lf t v x (w.alloc (jf #[v] 27)) (f.below a) g);obtain⟨l,h⟩:=J ((aN t x).getD 0);obtain⟨i,d⟩:=J ((aN t x).isSome);rw[<-h,<-d]at b;rw[<-d];obtain⟨j,c⟩:=J (w.alloc (jf #[v] 27));have k:j.cell? ⟨w,0,jc⟩=jb v:=by rw[c];unfold nz;rw[jw];rfl
 rw[<-c]at b a;clear f g h d
 go_enter func87,ntmps87
 go_wp2_with fail
 rw[<-c];clear c;refine b.mono ?_;rintro e f ⟨rfl,c⟩;have d:=O (a.trans (c.mono a.size));clear c a b k
 cases i with
 |true=>
  go_wp2_with fail
  go_ret;exact⟨I,d⟩
 |false=>
  go_wp2_with fail
  go_ret;exact⟨I,d⟩
def gV(t:je (N×N))(k:ja):je N:=((qb k).filter λd:ja=>(aN t (512+(d:N))).isSome).map λd:ja=>(d:N)
theorem KG(t:je (N×N)):gV t 0=[]:=I
theorem Ml(t:je (N×N))(k:ja):gV t (k+1)=gV t k++if(aN t (512+(k:N))).isSome then [(k:N)]else []:=by
 unfold gV;rw[xA,qa,lr]
 congr 1
 cases h:(aN t (512+(k:N))).isSome<;>simp[h]
theorem GW(t:je (N×N))(k:ja):(gV t k).length<=k:=by
 unfold gV;rw[jF];exact jP (xh _ _) (by rw[List.length_range];exact jt _)
theorem sK:(aN t d).isSome=jm↔∃e∈t,e.1=d:=by
 unfold aN;rw[Option.isSome_map,List.find?_isSome];simp
theorem L3(t:je (N×N))(d:N):d∈gV t 512↔0<=d/\d<512/\∃x∈t,x.1=512+d:=by
 unfold gV;simp only[jN,xi,qv,sK]
 constructor
 ·rintro⟨a,⟨c,b⟩,rfl⟩
  exact⟨by omega,by omega,b⟩
 rintro⟨a,c,b⟩;exact⟨d.toNat,⟨by omega,by rw[xR a];exact b⟩,xR a⟩
theorem MV(t:je (N×N))(k:ja):(gV t k).Pairwise (·<·):=by
 unfold gV;rw[qX];have h:=(List.pairwise_lt_range (n:=k)).filter λd:ja=>(aN t (512+(d:N))).isSome
 exact h.imp (λh=>by omega)
theorem Jm(t:je (N×N)):gV t 512=aY t:=
 EA (MV t 512) (sX t) (λx=>by rw[L3,ly])
theorem Ms{C:ja}{n:ja}(h:w.ownsRow b m C a n y)(B:e<=b):w.ownsRow e m C a n y:=by
 refine⟨h.1,?_⟩
 rcases h.2 with c|⟨g,d,f,i,j,k⟩
 ·exact .inl c
 exact .inr ⟨g,d,f,i,jP B j,k⟩
theorem J5{C:ja}(h:w.ownsRow b m C a e y)(B:ji w w f):f.ownsRow b m C a e y:=by
 refine⟨h.1,?_⟩
 rcases h.2 with c|⟨g,d,w',rfl,i,v,j⟩
 ·exact .inl c
 exact .inr ⟨g,d,w',I,i,(B.block g (jL.1 v).1).trans v,j⟩
theorem NX(t:je (N×N))(v:jl)(w:jh)(d:bp w v t)(f:t.length<=1000000):
 jq jk 29 #[jn #[v]] w λe w'=>∃c,e=jp c/\w'.ownsRow w 3 1 c (aY t).length ((aY t).map (jo .i64))/\ji w w w':=by
 obtain⟨r,s,u,x,y⟩:=info_parts vX;have b:ji w w ((w.alloc (jf #[v] 27)).alloc (jf #[] 3)):=((jG _ w).alloc (jt _) _).alloc ax _;have l:jd (((w.alloc (jf #[v] 27)).alloc (jf #[] 3)).ownsRow (w.heap.size+1) 3 1 (jg (jb ⟨w.heap.size+1,0,jc⟩) 0 0) 0 []):=O (by
  have h:=xf (base:=w.heap.size+1) (size:=1) (e:=3) (w.alloc (jf #[v] 27)) #[] 0 ax (by unfold j8;omega) ax;rw[jK]at h;exact h)
 have z:=O d;have B:=O f;obtain⟨m,a⟩:=J ((w.alloc (jf #[v] 27)).alloc (jf #[] 3));have g:m.cell? ⟨w,0,jc⟩=jb v:=by
  rw[a];unfold nz;rw[qL _ _ _ ax,jw];rfl
 rw[<-a]at l b;clear d f
 go_enter func29,ntmps29
 go_wp2_with fail
 rw[<-a];have d:m.heap.size=w.heap.size+2:=by rw[a];simp
 have C:=O b;have D:=O (Jm t);clear a b
 go_loopw [3,4] (λc i wr=>∃k:ja,i=T A k/\k<=512/\jd (wr.ownsRow (w.heap.size+1) 3 1 c (gV t k).length ((gV t k).map (jo .i64)))/\jd (ji w w wr)/\wr.cell? ⟨w,0,jc⟩=jb v/\w.heap.size<wr.heap.size) (λ_ i _=>512-(js i).toNat)
 case atStart=>exact⟨0,I,by omega,by rw[KG];exact l,C,g,by omega⟩
 obtain⟨k,rfl,hk,f,a,n,E⟩:=hrel;clear g d
 by_cases V:k<512
 ·have F:=ao ((k:N)<512)
  have H:=ao (k<512);have g:=O (M7 t v (512+(k:N)) wr (z.below a) B);obtain⟨K,b⟩:=J ((aN t (512+(k:N))).isSome);rw[<-b]at g;have i:=O (Ml t k);rw[<-b]at i;have M:=O (GW t k);have W:=a.size;clear b
  go_wp2_with fail
  refine g.mono ?_;rintro e o ⟨rfl,b⟩;have d:=ac a b;have p:=O (J5 f b);have q:=bQ n (b.block _ E);have X:=b.size;clear b n f a g
  cases K with
  |true=>
   have P:=O (cell_one_new o (T A k) 3);have b:=O (p.alloc (jf #[T A k] 3));have aa:=M.out
   go_wp2_with (at_builtin;refine wpList_append_own _ I _ _ 58 I (w.heap.size+1) 3 r (T A 0) 1 8 underlying58 s u x y I G _ _ _ I b ⟨o,0,jc⟩ 1 1 [T A k] I I P (by simp[kw]) (by unfold j8;omega) Y (by simp;omega) ?_;intro v' Q R g _)
   have S:=O ((d.alloc d.size (jf #[T A k] 3)).grown g (by have:=d.size;simp;omega) (λj U=>by have:=(b.lt j U).1;omega));have j:Q.cell? ⟨w,0,jc⟩=jb v:=by
    refine bQ q ?_;rw[g.block w.heap.size (by simp;omega) (λh=>by have:=(b.lt _ h.symm).1;omega)];exact qL _ _ _ Y
   have h:=g.size;rw[jK]at h;refine⟨⟨k+1,by go_num,by omega,?_,S,j,by omega⟩,by simp only[js];omega⟩;rw[i,ju trivial,jM,lr];exact O R
  |false=>
   go_wp2_with fail
   refine⟨⟨k+1,by go_num,by omega,?_,d,q,by omega⟩,by simp only[js];omega⟩;rw[i,jy G,km];exact p
 have F:=ap ((k:N)<512);have H:=ap (k<512);obtain rfl:k=512:=Y
 go_wp2_with fail
 go_ret;exact⟨_,I,by rw[<-D];exact Ms f Y,a⟩
theorem Au:∀(k n:ja),1<=n->n<2^k->∀x:ja,(x∈n::(upL k n).map gq↔1<=x/\∃j,n/2^j=x)
 |0,n,d,c,x=>by simp at c;omega
 |k+1,n,d,c,x=>by
  by_cases g:1<n
  ·obtain⟨i,e,h,l⟩:=Cd g c
   obtain rfl:i=k:=Y;have m:=Au i (n/2) Y l x;rw[h,qo,jW,show gq n=n/2 from I,m];have f:∀j,n/2^(j+1)=n/2/2^j:=λj=>by rw[Nat.pow_succ,qw,xS]
   constructor
   ·rintro(rfl|⟨b,j,a⟩)
    ·exact⟨d,0,by simp⟩
    exact⟨b,j+1,by rw[f];exact a⟩
   rintro⟨b,j,a⟩
   cases j with
   |zero=>exact .inl (ah a.symm)
   |succ j=>exact .inr ⟨b,j,by rw[<-f];exact a⟩
  have e:n=1:=Y;rw[Db Y];subst e;simp only[List.map_nil,p6]
  constructor
  ·rintro rfl;exact⟨by omega,0,rfl⟩
  rintro⟨b,j,a⟩;have:1/2^j<=1:=Nat.div_le_self _ _;omega
theorem nY(d:N)(b:0<=d)(g:d<512)(x:N):x∈(512+d)::bD d↔Und (512+d) x:=by
 obtain⟨n,rfl⟩:=m0 b;have h:=Au 10 (512+n) Y Y;have e:(512+(n:N))::bD (n:N)=((512+n)::(upL 10 (512+n)).map gq).map λm:ja=>(m:N):=by
  simp[bD,iw]
 rw[e];simp only[jN,h];have c:∀j:ja,(512+(n:N))/2^j=(((512+n)/2^j:ja):N):=λj=>by
  rw[xj];push_cast;rfl
 unfold Und
 constructor
 ·rintro⟨y,⟨f,j,a⟩,rfl⟩
  exact⟨by omega,j,by rw[c,a]⟩
 rintro⟨f,j,a⟩;refine⟨(512+n)/2^j,⟨?_,j,I⟩,by rw[<-c];exact a⟩;rw[c]at a;omega
theorem Dj(a:je N)(x:N):x∈fj a↔∃d∈a,x∈(512+d)::bD d:=by
 unfold fj;rw[xJ]
def iR(t:je (N×N))(a:N):Prop:=∃e∈t,512<=e.1/\Und e.1 a
def eL(t:je (N×N))(i:ja):Prop:=
 (t.getD i (0,0)).1<1\/1023<(t.getD i (0,0)).1\/(0<i/\(t.getD i (0,0)).1<=(t.getD (i-1) (0,0)).1)\/¬aW (t.getD i (0,0)).2\/¬iR t (t.getD i (0,0)).1
theorem LP(h:d∈fj (aY t)):iR t d:=by
 obtain⟨a,b,c⟩:=(Dj _ _).1 h;obtain⟨f,g,e,i,j⟩:=(ly _ _).1 b;exact⟨e,i,by omega,by rw[j];exact(nY a f g d).1 c⟩
theorem mp(a:b<t.length)(h:eL t b):bW t=210:=by
 refine mJ (U:=fj (aY t)) I a ?_
 rcases h with h|h|h|h|h
 ·exact .inl h
 ·exact .inr (.inl h)
 ·exact .inr (.inr (.inl h))
 ·exact .inr (.inr (.inr (.inl h)))
 exact .inr (.inr (.inr (.inr (λi=>h (LP i)))))
theorem D5(h:∀i,i<t.length->¬eL t i):bW t=0:=by
 refine Ae (U:=fj (aY t)) I (λi c a=>?_);have b:=h i c
 rcases a with a|a|a|a|a
 ·exact b (.inl a)
 ·exact b (.inr (.inl a))
 ·exact b (.inr (.inr (.inl a)))
 ·exact b (.inr (.inr (.inr (.inl a))))
 refine b (.inr (.inr (.inr (.inr ?_))));rintro⟨e,he,l,d⟩;obtain⟨k,hk,rfl⟩:=qe he;have f:=h k hk;have g:t.getD k (0,0)=t[k]:=by simp[jQ,hk]
 have m:¬1023<t[k].1:=λj=>f (.inr (.inl (by rw[g];exact j)))
 refine a ((Dj _ _).2 ⟨t[k].1-512,(ly _ _).2 ⟨by omega,by omega,t[k],he,by omega⟩,?_⟩);refine(nY _ Y Y _).2 ?_;rw[show 512+(t[k].1-512)=t[k].1 by omega];exact d
noncomputable def lA(t:je (N×N))(a:N)(k:ja):jE:=(t.take k).any λe=>decide (512<=e.1)&&dE e.1 a
theorem CK{a b q:N}{k:ja}(h:t.take (k+1)=t.take k++[(b,q)]):lA t a (k+1)=(lA t a k||(decide (512<=b)&&dE b a)):=by
 unfold lA;rw[h,List.any_append];simp
theorem tH(n:b=t.length):lA t d b=jm↔iR t d:=by
 unfold lA iR;rw[n,List.take_length,qS];simp[tG]
theorem FC(n a:N)(b:aH n)(w:jh):
 jq jk 86 #[T A n,T A a] w λe w'=>e=jp (.bool (dE n a))/\w'=w:=
 (II n a b w).mono λ_ _ h=>⟨h.1,h.2.symm⟩
theorem mE(n:N)(w:jh):
 jq jk 30 #[T A n] w λe w'=>e=jp (T A (b7 n))/\w'=w:=
 (ON n w).mono λ_ _ h=>⟨h.1,h.2.symm⟩
theorem Qg(t:je (N×N))(v:jl)(w:jh)(ht:bp w v t)(hl:t.length<=1000000):
 jq jk 28 #[jn #[v]] w λe w'=>e=jp (T A (bW t))/\ji w w w':=by
 have b:ji w w (w.alloc (jf #[v] 27)):=(jG _ w).alloc (jt _) _;obtain⟨p,c,rfl,hc,-,f,g⟩:=ht;have HC:=O f;have WU:=O g;obtain⟨W0,a⟩:=J (w.alloc (jf #[jg p t.length c] 27));have d:W0.cell? ⟨w,0,jc⟩=jb (jg p t.length c):=by rw[a];unfold nz;rw[jw];rfl
 have l:w.heap.size<W0.heap.size:=by rw[a];simp
 clear f g
 go_enter func28,ntmps28
 go_wp2_with fail
 rw[<-a]at b⊢;have RG:=O b;obtain⟨n,f⟩:=J t.length;have u:=O f;rw[<-f]at hc hl d;clear a b f
 go_loopw [3] (λi wr=>∃k:ja,i=T A k/\k<=n/\jd (∀j,j<k->¬eL t j)/\jd (ji w w wr)/\wr.cell? ⟨w,0,jc⟩=jb (jg p n c)/\w.heap.size<wr.heap.size) (λi _=>n-(js i).toNat)
 case atStart=>exact⟨0,I,jS _,O (λj h=>jB h (Nat.not_lt_zero _)),RG,d,l⟩
 obtain⟨k,rfl,hk,HG,HB,ba,bf⟩:=hrel;clear d l
 by_cases bb:k<n
 ·have hd:=ao ((k:N)<(n:N))
  have Sm:=ao (k<n);obtain⟨g,o,rfl,b⟩:=HC.out (by rw[<-u];omega);obtain⟨a,q,f,l,d,m,hgt,-,-⟩:=mD b WU.out (by rw[<-u];exact bb) HB;have U1:=O b;have B:=O hgt;have F:jd (k<t.length):=O (by rw[<-u];exact bb);clear b hgt d m
  go_upto_region 5 with fail
  obtain⟨X,d⟩:=J wr.heap.size;rw[<-d]at bf⊢;obtain⟨H,b⟩:=J (wr.alloc (jf #[T A a,T A q] 148));have aa:H.cell? ⟨X,0,jc⟩=jb (T A a):=by rw[b,d];unfold nz;rw[jw];rfl
  have bc:H.cell? ⟨X,1,jc⟩=jb (T A q):=by rw[b,d];unfold nz;rw[jw];rfl
  have Tb:H.cell? ⟨w,0,jc⟩=jb (jg (jb ⟨g,o,jc⟩) n c):=bQ ba (by rw[b];exact qL _ _ _ (by show w.heap.size<_;omega));have z:jd (ji w w H):=O (by rw[b];exact HB.alloc HB.size _);have ad:X<H.heap.size:=by rw[b,d];simp
  rw[<-b];clear b d ba f l
  by_cases h1:a<1
  ·have bg:=ao (a<1)
   have l:jd (bW t=210):=O (mp F (by unfold eL;rw[B];exact .inl h1));clear h1
   go_quiet (fail)
   go_wp2_with fail
   go_ret;exact⟨fI l,z.trans ⟨I,I,I,jt _,λ_ _=>rfl⟩⟩
  have bg:=ap (a<1)
  by_cases E:1023<a
  ·have bh:=ao (1023<a)
   have l:jd (bW t=210):=O (mp F (by unfold eL;rw[B];exact .inr (.inl E)));clear E
   go_quiet (fail)
   go_wp2_with fail
   go_ret;exact⟨fI l,z.trans ⟨I,I,I,jt _,λ_ _=>rfl⟩⟩
  have bh:=ap (1023<a)
  by_cases h3:0<k
  ·have bk:=ao ((0:N)<(k:N))
   have bl:=ao (0<k);obtain⟨m,rfl⟩:∃m,k=m+1:=⟨k-1,by omega⟩;obtain⟨a2,q2,c3,-,-,-,b,-,-⟩:=mD U1 WU (k:=m) (by rw[<-u];omega) z;have bd:=O b;clear b
   by_cases d:a<=a2
   ·have bm:=ao (a<=a2)
    have l:jd (bW t=210):=O (mp F (by unfold eL;rw[B];exact .inr (.inr (.inl ⟨by omega,by rw[show m+1-1=m by omega,bd];exact d⟩))));clear d
    go_quiet (fail)
    go_wp2_with fail
    go_ret;exact⟨fI l,z.trans ⟨I,I,I,jt _,λ_ _=>rfl⟩⟩
   have bm:=ap (a<=a2);have al:jd (¬(0<m+1/\a<=(t.getD (m+1-1) (0,0)).1)):=O (λh=>d (by have:=h.2;rw[show m+1-1=m by omega,bd]at this;exact this));clear d
   by_cases d:aW q
   ·have C:jd (∀W,jq jk 30 #[T A q] W λe w'=>e=jp (T A 0)/\w'=W):=O (λW=>by have h:=mE q W;rw[eG d]at h;exact h)
    have S:=O d
    go_quiet (exact Calls.quiet_of_same (C _))
    have Yz:jd (iR t a->¬eL t (m+1)):=O (λhm=>by
     unfold eL;rw[B];rintro(h|h|h|h|h)
     ·omega
     ·omega
     ·exact al h
     ·exact h S
     exact h hm)
    obtain⟨r,s⟩:=J (H.drewN nq);have K:r.cell? ⟨X,0,jc⟩=jb (T A a):=by rw[s];exact aa
    have M:r.cell? ⟨w,0,jc⟩=jb (jg (jb ⟨g,o,jc⟩) n c):=by rw[s];exact Tb
    have U:jd (ji w w r):=O (by rw[s];exact z.trans ⟨I,I,I,jt _,λ_ _=>rfl⟩);have au:X<r.heap.size:=by rw[s];exact ad
    rw[<-s];clear s aa bc Tb z C d ad S
    go_wp2_with fail
    go_loopw [5,6] (λb i YB=>∃(j:ja) (x:jE),i=T A j/\j<=n/\b=.bool x/\jd (x=lA t a j)/\jd (ji r r YB)) (λ_ i _=>n-(js i).toNat)
    case atStart=>exact⟨0,jj,I,jS _,I,O (by simp[lA]),O (jG _ _)⟩
    obtain⟨j,x,rfl,hj,rfl,y,f⟩:=hrel;have a1:=bQ M (f.block _ (by show w.heap.size<_;omega));have bn:=bQ K (f.block _ au);have P:jd (ji w w wr):=O (U.trans (f.mono U.size));have bo:=f.size
    by_cases a3:j<n
    ·have he:=ao ((j:N)<(n:N))
     have a4:=ao (j<n);obtain⟨b,q3,c4,-,V,-,-,U3,-⟩:=mD U1 WU (k:=j) (by rw[<-u];exact a3) P;have D:=O (CK (a:=a) U3);have a5:=O V;clear U3 V M K
     cases x with
     |true=>
      go_upto_region 11 with fail
      go_quiet (fail)
      go_wp2_with fail
      exact⟨⟨j+1,jm,by go_num,by omega,rfl,O (by rw[D,<-y];rfl),O (f.trans ⟨rfl,rfl,rfl,jt _,λ_ _=>rfl⟩)⟩,by simp only[js];omega⟩
     |false=>
      by_cases h5:512<=b
      ·have Q:=ao (512<=b)
       have R:jd (decide (512<=b)=jm):=O Q;have HU:jd (∀W,jq jk 86 #[T A b,T A a] W λe w'=>e=jp (.bool (dE b a))/\w'=W):=O (λW=>FC b a a5 W);obtain⟨ub,ZJ⟩:=J (dE b a);rw[<-ZJ]at HU D;clear ZJ h5
       go_upto_region 11 with fail
       go_quiet (exact Calls.quiet_of_same (HU _))
       go_wp2_with fail
       exact⟨⟨j+1,ub,by go_num,by omega,rfl,O (by rw[D,<-y,R];rfl),O (f.trans ⟨rfl,rfl,rfl,jt _,λ_ _=>rfl⟩)⟩,by simp only[js];omega⟩
      have Q:=ap (512<=b);have R:jd (decide (512<=b)=jj):=O Q;clear h5
      go_upto_region 11 with fail
      go_quiet (fail)
      go_wp2_with fail
      exact⟨⟨j+1,jj,by go_num,by omega,rfl,O (by rw[D,<-y,R];rfl),O (f.trans ⟨rfl,rfl,rfl,jt _,λ_ _=>rfl⟩)⟩,by simp only[js];omega⟩
    have he:=ap ((j:N)<(n:N));have a4:=ap (j<n);obtain rfl:j=n:=Y;clear M K
    cases x with
    |true=>
     have HS:jd (∀i,i<m+1+1->¬eL t i):=O (λi hi=>by
      rcases qY (qZ hi)with h|h
      ·exact HG i h
      rw[h];exact Yz ((tH u).1 y.symm))
     go_wp2_with fail
     exact⟨⟨m+1+1,by go_num,by omega,HS,P,a1,by omega⟩,by simp only[js];omega⟩
    |false=>
     have l:jd (bW t=210):=O (mp F (by unfold eL;rw[B];exact .inr (.inr (.inr (.inr (λh=>by have E:=(tH u).2 h;rw[<-y]at E;cases E))))))
     go_wp2_with fail
     go_ret;exact⟨fI l,P⟩
   have C:jd (∀W,jq jk 30 #[T A q] W λe w'=>e=jp (T A 40)/\w'=W):=O (λW=>by have h:=mE q W;rw[fJ d]at h;exact h);have l:jd (bW t=210):=O (mp F (by unfold eL;rw[B];exact .inr (.inr (.inr (.inl d)))));clear d
   go_quiet (exact Calls.quiet_of_same (C _))
   go_wp2_with fail
   go_ret;exact⟨fI l,z.trans ⟨I,I,I,jt _,λ_ _=>rfl⟩⟩
  have bk:=ap ((0:N)<(k:N));have bl:=ap (0<k);have al:jd (¬(0<k/\a<=(t.getD (k-1) (0,0)).1)):=O (λh=>h3 h.1);clear h3
  by_cases d:aW q
  ·have C:jd (∀W,jq jk 30 #[T A q] W λe w'=>e=jp (T A 0)/\w'=W):=O (λW=>by have h:=mE q W;rw[eG d]at h;exact h)
   have S:=O d
   go_quiet (exact Calls.quiet_of_same (C _))
   have Yz:jd (iR t a->¬eL t (k)):=O (λhm=>by
    unfold eL;rw[B];rintro(h|h|h|h|h)
    ·omega
    ·omega
    ·exact al h
    ·exact h S
    exact h hm)
   obtain⟨r,s⟩:=J (H.drewN nq);have K:r.cell? ⟨X,0,jc⟩=jb (T A a):=by rw[s];exact aa
   have M:r.cell? ⟨w,0,jc⟩=jb (jg (jb ⟨g,o,jc⟩) n c):=by rw[s];exact Tb
   have U:jd (ji w w r):=O (by rw[s];exact z.trans ⟨I,I,I,jt _,λ_ _=>rfl⟩);have au:X<r.heap.size:=by rw[s];exact ad
   rw[<-s];clear s aa bc Tb z C d ad S
   go_wp2_with fail
   go_loopw [5,6] (λb i YB=>∃(j:ja) (x:jE),i=T A j/\j<=n/\b=.bool x/\jd (x=lA t a j)/\jd (ji r r YB)) (λ_ i _=>n-(js i).toNat)
   case atStart=>exact⟨0,jj,I,jS _,I,O (by simp[lA]),O (jG _ _)⟩
   obtain⟨j,x,rfl,hj,rfl,y,f⟩:=hrel;have a1:=bQ M (f.block _ (by show w.heap.size<_;omega));have bn:=bQ K (f.block _ au);have P:jd (ji w w wr):=O (U.trans (f.mono U.size));have bo:=f.size
   by_cases a3:j<n
   ·have he:=ao ((j:N)<(n:N))
    have a4:=ao (j<n);obtain⟨b,q3,c4,-,V,-,-,U3,-⟩:=mD U1 WU (k:=j) (by rw[<-u];exact a3) P;have D:=O (CK (a:=a) U3);have a5:=O V;clear U3 V M K
    cases x with
    |true=>
     go_upto_region 11 with fail
     go_quiet (fail)
     go_wp2_with fail
     exact⟨⟨j+1,jm,by go_num,by omega,rfl,O (by rw[D,<-y];rfl),O (f.trans ⟨rfl,rfl,rfl,jt _,λ_ _=>rfl⟩)⟩,by simp only[js];omega⟩
    |false=>
     by_cases h5:512<=b
     ·have Q:=ao (512<=b)
      have R:jd (decide (512<=b)=jm):=O Q;have HU:jd (∀W,jq jk 86 #[T A b,T A a] W λe w'=>e=jp (.bool (dE b a))/\w'=W):=O (λW=>FC b a a5 W);obtain⟨ub,ZJ⟩:=J (dE b a);rw[<-ZJ]at HU D;clear ZJ h5
      go_upto_region 11 with fail
      go_quiet (exact Calls.quiet_of_same (HU _))
      go_wp2_with fail
      exact⟨⟨j+1,ub,by go_num,by omega,rfl,O (by rw[D,<-y,R];rfl),O (f.trans ⟨rfl,rfl,rfl,jt _,λ_ _=>rfl⟩)⟩,by simp only[js];omega⟩
     have Q:=ap (512<=b);have R:jd (decide (512<=b)=jj):=O Q;clear h5
     go_upto_region 11 with fail
     go_quiet (fail)
     go_wp2_with fail
     exact⟨⟨j+1,jj,by go_num,by omega,rfl,O (by rw[D,<-y,R];rfl),O (f.trans ⟨rfl,rfl,rfl,jt _,λ_ _=>rfl⟩)⟩,by simp only[js];omega⟩
   have he:=ap ((j:N)<(n:N));have a4:=ap (j<n);obtain rfl:j=n:=Y;clear M K
   cases x with
   |true=>
    have HS:jd (∀i,i<k+1->¬eL t i):=O (λi hi=>by
     rcases qY (qZ hi)with h|h
     ·exact HG i h
     rw[h];exact Yz ((tH u).1 y.symm))
    go_wp2_with fail
    exact⟨⟨k+1,by go_num,by omega,HS,P,a1,by omega⟩,by simp only[js];omega⟩
   |false=>
    have l:jd (bW t=210):=O (mp F (by unfold eL;rw[B];exact .inr (.inr (.inr (.inr (λh=>by have E:=(tH u).2 h;rw[<-y]at E;cases E))))))
    go_wp2_with fail
    go_ret;exact⟨fI l,P⟩
  have C:jd (∀W,jq jk 30 #[T A q] W λe w'=>e=jp (T A 40)/\w'=W):=O (λW=>by have h:=mE q W;rw[fJ d]at h;exact h);have l:jd (bW t=210):=O (mp F (by unfold eL;rw[B];exact .inr (.inr (.inr (.inl d)))));clear d
  go_quiet (exact Calls.quiet_of_same (C _))
  go_wp2_with fail
  go_ret;exact⟨fI l,z.trans ⟨I,I,I,jt _,λ_ _=>rfl⟩⟩
 have hd:=ap ((k:N)<(n:N));have Sm:=ap (k<n);obtain rfl:k=n:=Y;have a:jd (bW t=0):=O (D5 (λi hi=>HG i (by rw[u];exact hi)))
 go_wp2_with fail
 go_ret;exact⟨fI a,HB⟩
noncomputable def dk(t:je (N×N))(d:N):je (N×N):=t.filter λe=> !dE (512+d) e.1
def dW(z:N×N):je (N×N)->je (N×N)
 |[]=>[z]
 |x::r=>if z.1<x.1 then z::x::r else x::dW z r
theorem FF(z:N×N):∀l,(dW z l).length=l.length+1
 |[]=>rfl
 |x::r=>by
  unfold dW
  split
  ·rfl
  simp[FF z r]
theorem Oa(t:je (N×N))(v:jl)(w:jh)(d:bp w v t)(g:t.length<=j8):
 jq jk 27 #[jn #[v]] w λe w'=>e=jp (.bool (decide (t.length<=80)))/\ji w w w':=by
 obtain⟨p,c,rfl,i,-,-,-⟩:=d;have b:=O ((jG _ w).alloc (jt _) (jf #[jg p t.length c] 27))
 by_cases h:t.length<=80
 ·have f:=ao ((t.length:N)<=80)
  have a:=O (jO h);generalize t.length=n at*
  go_enter func27,ntmps27
  go_wp2
  go_ret;exact⟨by rw[a];rfl,b⟩
 have f:=ap ((t.length:N)<=80);have a:=O (decide_eq_false h);generalize t.length=n at*
 go_enter func27,ntmps27
 go_wp2
 go_ret;exact⟨by rw[a];rfl,b⟩
theorem rP(w:jh):bp w (jg jc 0 0) []:=⟨jc,0,I,jt _,λ_=>rfl,λh=>jB h ax,λx h=>by cases h⟩
theorem oS{e:N×N}:∀{l:je (N×N)},e∈dW z l->e=z\/e∈l
 |[],h=>by left;simpa [dW]using h
 |x::r,h=>by
  unfold dW at h
  split at h
  ·rcases jW.1 h with h|h
   ·exact .inl h
   exact .inr h
  rcases jW.1 h with h|h
  ·exact .inr (h▸qx ..)
  rcases oS h with h|h
  ·exact .inl h
  exact .inr (xm _ h)
noncomputable def ia(t:je (N×N))(d x:N):je (N×N):=if eX t d x=0 then dW (512+d,x) (dk t d)else []
noncomputable def l8(t:je (N×N))(d:N):je (N×N):=if dc t d jm=0 then dk t d else []
theorem wF(h:∀e∈t,aH e.1/\aH e.2):∀e∈dk t d,aH e.1/\aH e.2:=λe he=>h e (xi.1 he).1

def eC(t:je (N×N))(d:N)(l:je N):ja->N->jR N
 |0,y=>if y=512+d then jb (l.getD 0 0)else fT (aN t) ((512+d)::bD d) y
 |k+1,y=>if y=(bD d).getD k 0 then jb (l.getD (k+1) 0)else eC t d l k y
theorem AB:∀k y,(eC t d r k y).isSome=jm->y∈(512+d)::((qb k).map λj=>(bD d).getD j 0)++t.map (·.1)
 |0,y,h=>by
  unfold eC at h
  split at h
  ·rename_i e;rw[e];simp
  obtain⟨v,a⟩:=xT.1 h;simp only[nn,jW,jN];exact .inr ⟨_,nJ (pA a).1,I⟩
 |k+1,y,h=>by
  unfold eC at h
  split at h
  ·rename_i e
   simp only[nn,jW,jN,qv];exact .inl (.inr ⟨k,by omega,e.symm⟩)
  have:=AB k y h;simp only[nn,jW,jN,qv]at this⊢
  rcases this with(h1|⟨j,h1,h2⟩)|h1
  ·exact .inl (.inl h1)
  ·exact .inl (.inr ⟨j,by omega,h2⟩)
  exact .inr h1
theorem P7{xs:je N}(h:iZ (eC t d r b) xs):xs.length<=t.length+b+1:=by
 have a:xs⊆(512+d)::((qb b).map λj=>(bD d).getD j 0)++t.map (·.1):=λy k=>AB b y (h.2.1 y k).2
 have:=h.1.length_le_of_subset a;simp at this;omega
theorem Ar(b:∀e∈t,aH e.1/\aH e.2)(a:∀j,aH (r.getD j 0)):∀k y v,aH y->eC t d r k y=jb v->aH v
 |0,y,v,_,h=>by
  unfold eC at h
  split at h
  ·cases h;exact a 0
  exact(b _ (nJ (pA h).1)).2
 |k+1,y,v,c,h=>by
  unfold eC at h
  split at h
  ·cases h;exact a (k+1)
  exact Ar b a k y v c h
theorem aS.no_cell{E:jH}{n:EKind P E u}{f:N->jR u}(h:aS n m w b e f){j:ja}{v:jl}:w.cell? ⟨b,j,jc⟩≠jb v:=by
 obtain⟨D,⟨c,d,a,_⟩,_⟩:=h;unfold nz;rw[a];simp
noncomputable def eT(t:je (N×N))(d:N)(l:je N):N:=by classical exact if dc t d jm=0 then(if l.length=10/\gY l then 0 else 50)else dc t d jm
def KL(t:je (N×N))(d:N)(l:je N)(w:jh)(E:N)(e:Ending)(w':jh):Prop:=
 ji w w w'/\(E≠0->e=jp (jC #[jn #[jg jc 0 0],T A E]))/\
 (E=0->∃v xs,e=jp (jC #[jn #[v],T A 0])/\iZ (eC t d l 9) xs/\bp w' v (di (eC t d l 9) (xs.mergeSort leI))/\Fr w.heap.size v)
theorem Hn(t:je (N×N))(v:jl)(d:N)(l:je N)(a3:jl)(w:jh)(b:bp w v t)(g:t.length<=900000)(i:aH d)(hu:cV w a3 l)(k:l.length<=1000000)(m:∀j,aH (l.getD j 0)):
 jq jk 60 #[jn #[v],T A d,a3] w λe w'=>KL t d l w (eT t d l) e w':=by
 have n:∀e∈t,aH e.1/\aH e.2:=by obtain⟨p,c,-,-,-,-,h⟩:=b;exact h
 obtain⟨pl,cl,rfl,al,o⟩:=hu;have u:ji w w ((w.alloc (jf #[v] 27)).alloc (jf #[jg jc 0 0] 27)):=((jG _ w).alloc (jt _) _).alloc ax _;have S:=O (yN t v d jm ((w.alloc (jf #[v] 27)).alloc (jf #[jg jc 0 0] 27)) (b.below u) Y i);have C:jA ((w.alloc (jf #[v] 27)).alloc (jf #[jg jc 0 0] 27)) (w.heap.size+1) 27 (jg jc 0 0):=by
  have h:=jw (w.alloc (jf #[v] 27)) (jf #[jg jc 0 0] 27);rw[jK]at h;exact h
 have WU:=O n;have X:=O g;have U1:=O o;have au:=O m;have Ti:=O k;obtain⟨E,f⟩:=J (dc t d jm);have HE:=O f;rw[<-f]at S;clear b g f n i o m k
 go_enter func60,ntmps60
 go_wp2_with fail
 obtain⟨W0,b⟩:=J ((w.alloc (jf #[v] 27)).alloc (jf #[jg jc 0 0] 27));rw[<-b]at S C u⊢;clear b;refine S.mono ?_;rintro e g ⟨aa,a1,a2⟩;have m:jA g (w.heap.size+1) 27 (jg jc 0 0):=(aa.block _ C.lt).trans C;have D:=O (u.trans (aa.mono u.size));have SF:=O m;have bC:w.heap.size+1<g.heap.size:=m.lt
 by_cases o:E=0
 ·obtain⟨b,p,c,rfl,i,f,F⟩:=a2 o
  have HM:=O f;have bI:w.heap.size+1<b:=qy C.lt i;have bh:=wE (HE.symm.trans o);have HZ:jd (aH (512+d)):=O (aH.of (x:=512+d) Y);have Vp:xU.wrap (512+d)=512+d:=by rw[IntKind.wrap_i64];omega
  have U5:=O F;have H:jd (∀z,(l.length=10/\gY l->z=0)->(¬(l.length=10/\gY l)->z=50)->eT t d l=z):=O (λz k n=>by
   unfold eT;rw[ju (HE.symm.trans o)]
   by_cases h:l.length=10/\gY l
   ·rw[ju h,k h]
   rw[jy h,n h])
  subst o;obtain⟨d0,d1⟩:=bh;have bk:b<g.heap.size:=f.lt;clear a1 a2 aa u C m S f i F
  by_cases r:l.length=10
  ·obtain⟨f,U,rfl,i⟩:=U1 Y
   have U4:=O i;have bl:jd (cV g (jg (jb ⟨f,U,jc⟩) l.length cl) l):=O ⟨_,cl,I,al,λ_=>⟨f,U,I,λj K=>bQ (i j K) (D.block f (eJ (i j K)))⟩⟩;have a4:=O (Q8 l _ g bl Ti);have V:=O r;rw[r]at a4 al⊢;clear i r
   go_wp2_with fail
   refine a4.mono ?_;rintro e n ⟨bK,rfl,UD,i⟩;have TU:jd (jA n (w.heap.size+1) 27 (jg jc 0 0)):=O ((i.block _ Y).trans SF);have Ta:=O (HM.below i bk);have bm:=i.size;have W:=ac D i;have bn:=O (i);clear i
   by_cases M:gY l
   ·obtain rfl:=UD.1 M
    have s:=O (H 0 (λ_=>rfl) (λh=>jB ⟨V,M⟩ h));clear UD M;have a5:jd (∀j,j<10->n.cell? ⟨f,U+j,jc⟩=jb (T A (l.getD j 0))):=O λj K=>bQ (U4 j (by rw[V];exact K)) (W.block f (eJ (U4 j (by rw[V];exact K))))
    have bM:f<w.heap.size:=eJ (U4 0 (by rw[V];omega));have bN:n.cell? ⟨f,U,jc⟩=jb (T A (l.getD 0 0)):=a5 0 Y;have T4:=O (sA d d0 d1);have bo:=O (yD d d0 d1);have bO:f<n.heap.size:=Y;have q:g.ownsRow W0 3 1 (jg p 9 c) (bD d).length ((bD d).map (jo .i64)):=by rw[T4];exact U5
    obtain⟨p',c',ba,-,i⟩:=oK q;rw[T4]at ba i
    cases ba
    obtain⟨P,rfl,bT,bq,k⟩:=i Y;have R3:=O k;have bb:P≠b:=λe=>by have h:=k 0 Y;rw[e]at h;exact aS.no_cell HM h
    clear q i k
    go_wp2_with (at_mapUpdate;refine nA (E:=dw mF) I _ _ _ 167 I mF underlying167 b _ _ I Ta (by have:=X.out;unfold j8;omega) (512+d) I HZ (l.getD 0 0) I (au 0) ?_;intro Q WW Vo;have Tq:=O WW;have Wz:=O Vo;have br:=Vo.grown.size;clear WW Vo)
    have RI:jd (ji w w Q):=O (W.grown Wz.grown (bL W.size) (λj e=>by cases e;omega));have bs:jd (aS (dw mF) 3 Q b (t.length+1+0) (eC t d l 0)):=O Tq;have b0:n.heap.size<=Q.heap.size:=br;have b1:g.heap.size<=n.heap.size:=bm
    go_wp2_with fail
    go_loopw [39] (λi wr=>∃j:ja,i=T A j/\j<=9/\jd (aS (dw mF) 3 wr b (t.length+1+j) (eC t d l j))/\jd (ji w w wr)/\jd (∀k,k<Q.heap.size->k≠b->wr.heap[k]?=Q.heap[k]?)/\Q.heap.size<=wr.heap.size) (λi _=>9-(js i).toNat)
    case atStart=>exact⟨0,I,jS _,bs,RI,O (λ_ _ _=>rfl),jt _⟩
    obtain⟨j,rfl,K,bc,SR,ad,b2⟩:=hrel
    by_cases bd:j<9
    ·have bu:=ao ((j:N)<9)
     have cy:wr.cell? ⟨P,j,jc⟩=jb (T A ((bD d).getD j 0)):=bQ (bQ (bQ (R3 j bd) (bn.block P bq)) (Wz.grown.block P Y (ah bb))) (ad P Y bb);have cz:wr.cell? ⟨f,U+(j+1),jc⟩=jb (T A (l.getD (j+1) 0)):=bQ (bQ (a5 (j+1) Y) (Wz.grown.block f Y (by simp;omega))) (ad f Y Y);have q:j<(bD d).length:=by rw[T4];exact bd
     have bf:(bD d).getD j 0=(bD d)[j]:=by simp[jQ,q]
     have bg:jd (0<=(bD d).getD j 0/\(bD d).getD j 0<1024):=O (by rw[bf];exact bo _ (qs q));obtain⟨y,R⟩:=J ((bD d).getD j 0);obtain⟨z,i⟩:=J (l.getD (j+1) 0);rw[<-R]at cy bg;rw[<-i]at cz;have bv:jd (aH y):=O (aH.of (x:=y) (aA bg));have bw:jd (aH z):=O (by rw[i];exact au _);have HY:=O R;have bA:=O i;have b3:P<wr.heap.size:=Y;have b4:f<wr.heap.size:=Y;clear q bf R i
     go_wp2_with (at_mapUpdate;refine nA (E:=dw mF) I _ _ _ 167 I mF underlying167 b _ _ I bc (by have:=X.out;unfold j8;omega) y I bv z I bw ?_;intro w5 q i;have bB:=O q;have bf:=O i;have R:=i.grown.size;clear q i)
     refine⟨⟨j+1,by go_num,by omega,O ?_,O (SR.grown bf.grown (bL SR.size) (λj e=>by cases e;omega)),O λk hk R=>(bf.grown.block k Y (ah R)).trans (ad k hk R),by omega⟩,by simp only[js];omega⟩;refine aS.congr bB (λx _=>?_);show(if x=y then jb z else eC t d l j x)=eC t d l (j+1) x;rw[HY,bA]
     rfl
    have bu:=ap ((j:N)<9);obtain rfl:j=9:=Y;have Uc:jd (jA wr (w.heap.size+1) 27 (jg jc 0 0)):=O ((ad _ Y Y).trans ((Wz.grown.block _ Y (by simp;omega)).trans TU));have bv:w.heap.size+1<wr.heap.size:=Y
    go_wp2_with fail
    refine(zK b (t.length+1+9) (eC t d l 9) wr bc (aA X) (λxs h=>jP (P7 h) (aA X)) (Ar WU au 9)).mono ?_;rintro e w4 ⟨v',xs,rfl,bf,⟨F,bg⟩,i⟩;obtain⟨q,k,rfl⟩:=tu F;have y:jd (jA w4 (w.heap.size+1) 27 (jg jc 0 0)):=O ((i.block _ bv).trans Uc);have RO:=ac SR i;have Yp:=O bf;have Sz:=O F;have bw:=O bg;have z:=y.cell;have cf:=y.frozen;clear bf F bg i
    go_wp2_with fail
    have YQ:=O (qA w4 (w.heap.size+1) (jg q (di (eC t d l 9) (xs.mergeSort leI)).length k));have i:=(Boxed.set (jg q (di (eC t d l 9) (xs.mergeSort leI)).length k) y).cell;refine ms (v:=jC #[jn #[jg q (di (eC t d l 9) (xs.mergeSort leI)).length k],T A 0]) (by simp[results,sn,go_sem,i]) I ?_;refine⟨RO.grown YQ (bL RO.size) (λj e=>by cases e;omega),λh=>jB s h,λ_=>⟨_,xs,I,Yp,?_,(Fr.of_own Sz).mono Y⟩⟩;exact ye (B:=wr.heap.size) (ownsRow_setCell_below Sz (a:=⟨w.heap.size+1,0,jc⟩) (by show w.heap.size+1<wr.heap.size;omega) _) bw
   obtain rfl:=UD.2 M;have s:=O (H 50 (λh=>jB h.2 M) (λ_=>rfl));have z:=TU.cell;have cf:=TU.frozen;have i:=(Boxed.set (jg jc 0 0) TU).cell;clear UD M
   go_wp2_with fail
   refine ms (v:=jC #[jn #[jg jc 0 0],T A 50]) (by simp[results,sn,go_sem,i]) I ?_;exact⟨W.grown (qA n (w.heap.size+1) _) (bL W.size) (λj e=>by cases e;omega),λ_=>by rw[s],λh=>jB (s.symm.trans h) G⟩
  obtain⟨n,R⟩:=J l.length;rw[<-R]at al r⊢;have f:=O R;have k:=ap ((n:N)=10);have q:=ap (n=10);have y:((n:N)!=10)=jm:=by simp;omega
  have s:=O (H 50 (λh=>jB (f.trans h.1) r) (λ_=>rfl));have V:=O r;have z:=SF.cell;have cf:=SF.frozen;have i:=(Boxed.set (jg jc 0 0) SF).cell;clear R r
  go_wp2_with fail
  refine ms (v:=jC #[jn #[jg jc 0 0],T A 50]) (by simp[results,sn,go_sem,i]) I ?_;exact⟨D.grown (qA g (w.heap.size+1) _) (bL D.size) (λj e=>by cases e;omega),λ_=>by rw[s],λh=>jB (s.symm.trans h) G⟩
 obtain rfl:=a1 o;have b:=ap (E=0);have z:=m.cell;have cf:=m.frozen;have i:=(Boxed.set (jg jc 0 0) m).cell;clear a1 a2 aa u C m S
 go_wp2_with fail
 have H:jd (eT t d l=E):=O (by unfold eT;rw[jy (by rw[<-HE];exact o)];exact HE.symm);refine ms (v:=jC #[jn #[jg jc 0 0],T A E]) (by simp[results,sn,go_sem,i]) I ?_;exact⟨D.grown (qA g (w.heap.size+1) _) (bL D.size) (λj e=>by cases e;omega),λ_=>by rw[H],λh=>jB (H.symm.trans h) o⟩
noncomputable def i6(t:je (N×N))(d:N)(l:je N):ja->je (N×N)
 |0=>dk t d
 |k+1=>dW ((512+d)/2^k,l.getD k 0) (i6 t d l k)
noncomputable def lx(t:je (N×N))(d:N)(l:je N):je (N×N):=if eT t d l=0 then i6 t d l 10 else []
theorem La{k:ja}(a:0<=d)(b:d<512):0<=(512+d)/2^k/\(512+d)/2^k<=1023:=by
 have c:(0:N)<2^k:=by exact_mod_cast xQ k
 refine⟨Int.ediv_nonneg Y Y,?_⟩;have:(512+d)/2^k<=512+d:=Int.ediv_le_self _ Y;omega
theorem B2(h:∀e∈t,aH e.1/\aH e.2)(a:∀j,aH (r.getD j 0))(b:0<=d)(c:d<512):∀k,∀e∈i6 t d r k,aH e.1/\aH e.2
 |0,e,he=>wF h e he
 |k+1,e,he=>by
  unfold i6 at he
  rcases oS he with rfl|he
  ·exact⟨aH.of (by have:=La (k:=k) b c;omega),a k⟩
  exact B2 h a b c k e he
def Str(t:je (N×N)):Prop:=t.Pairwise λa b=>a.1<b.1
def Wf(t:je (N×N)):Prop:=∀e∈t,aH e.1/\aH e.2
theorem Str.keys(h:Str t):(t.map (·.1)).Pairwise (·<·):=qX.2 h
theorem kX(e:N×N)(t:je (N×N))(x:N):aN (e::t) x=if e.1=x then jb e.2 else aN t x:=by
 unfold aN;rw[List.find?_cons]
 by_cases h:e.1=x
 ·simp[h]
 have a:(e.1==x)=jj:=ah h;simp[h,a]
theorem Gl:∀{t:je (N×N)},Str t->∀e∈t,aN t e.1=jb e.2
 |[],_,e,he=>by cases he
 |y::t,h,e,he=>by
  rw[kX];have a:=q4.1 h
  rcases jW.1 he with rfl|he
  ·rw[ju I]
  rw[jy (bL (a.1 e he))];exact Gl a.2 e he
theorem Av(h:Str t):(t.map (·.1)).map (λx=>(x,(aN t x).getD 0))=t:=by
 rw[xo];have:∀e∈t,((λx=>(x,(aN t x).getD 0))∘(·.1)) e=id e:=λe he=>by
  simp only[Function.comp,Gl h e he,sq,id]
 rw[xV this,List.map_id]
theorem tT:(aN t d).isSome=jm↔d∈t.map (·.1):=by
 rw[sK,jN]
theorem L6{s:je (N×N)}(b:Str t)(c:Str s)(d:Wf t)(f:Wf s)(h:∀x,aH x->aN t x=aN s x):t=s:=by
 have hk:t.map (·.1)=s.map (·.1):=EA b.keys c.keys (λx=>by
  rw[<-tT,<-tT]
  constructor
  ·intro a
   obtain⟨e,he,rfl⟩:=jN.1 (tT.1 a);rw[<-h _ (d e he).1];exact a
  intro a;obtain⟨e,he,rfl⟩:=jN.1 (tT.1 a);rw[h _ (f e he).1];exact a)
 rw[<-Av b,<-Av c,<-hk];refine xV λx a=>?_
 obtain⟨e,he,rfl⟩:=jN.1 a;rw[h _ (d e he).1]
def eA(t:je (N×N)):Prop:=Str t/\∀e∈t,1<=e.1/\e.1<=1023/\aW e.2/\iR t e.1
theorem pG(a:b<t.length):t.getD b (0,0)=t[b]:=by simp[jQ,a]
theorem LW(h:∀i,i+1<t.length->(t.getD i (0,0)).1<(t.getD (i+1) (0,0)).1):Str t:=by
 have d:∀j,j<t.length->∀i,i<j->(t.getD i (0,0)).1<(t.getD j (0,0)).1:=by
  intro j
  induction j with
  |zero=>intro _ i a;omega
  |succ j e=>
   intro b i a;have f:=h j b
   rcases qY (qZ a)with c|c
   ·have:=e Y i c;omega
   rw[c];exact f
 unfold Str;rw[xp];intro i j a b c;have:=d j b i c
 rwa [pG a,pG b]at this
theorem ib(h:bW t=0):eA t:=by
 have c:∀i,i<t.length->¬eL t i:=λi b c=>by rw[mp b c]at h;exact jB h G
 refine⟨LW (λi b=>?_),λe he=>?_⟩
 ·have:=c (i+1) b
  unfold eL at this;have d:¬(0<i+1/\(t.getD (i+1) (0,0)).1<=(t.getD (i+1-1) (0,0)).1):=λa=>this (.inr (.inr (.inl a)))
  rw[show i+1-1=i by omega]at d;omega
 obtain⟨i,b,rfl⟩:=qe he;have:=c i b;unfold eL at this;rw[pG b]at this;refine⟨?_,?_,?_,?_⟩
 ·exact Classical.byContradiction λa=>this (.inl Y)
 ·exact Classical.byContradiction λa=>this (.inr (.inl Y))
 ·exact Classical.byContradiction λa=>this (.inr (.inr (.inr (.inl a))))
 exact Classical.byContradiction λa=>this (.inr (.inr (.inr (.inr a))))
theorem nE(h:eA t):bW t=0:=by
 refine D5 (λi b a=>?_);have c:=h.2 t[i] (qs b);unfold eL at a;rw[pG b]at a
 rcases a with a|a|a|a|a
 ·omega
 ·omega
 ·have d:=(xp.1 h.1) (i-1) i Y b Y
  rw[pG Y]at a;omega
 ·exact a c.2.2.1
 exact a c.2.2.2
theorem uJ(t:je (N×N))(d x:N):aN (dk t d) x=if dE (512+d) x=jm then jc else aN t x:=by
 induction t with
 |nil=>simp[dk,aN]
 |cons e t c=>
  unfold dk at c⊢;rw[List.filter_cons]
  by_cases b:dE (512+d) e.1=jm
  ·rw[jy (by simp[b]),c,kX]
   by_cases a:e.1=x
   ·rw[<-a,ju b,ju b]
   rw[jy a]
  rw[ju (by simp[b]),kX,kX,c]
  by_cases a:e.1=x
  ·rw[<-a,ju I,jy b,ju I]
  rw[jy a,jy a]
theorem rp:∀{t:je (N×N)},(∀e∈t,e.1≠z.1)->∀x,aN (dW z t) x=if x=z.1 then jb z.2 else aN t x
 |[],_,x=>by
  unfold dW;rw[kX]
  by_cases h:x=z.1
  ·rw[ju h.symm,ju h]
  rw[jy (λb=>h b.symm),jy h]
 |e::t,h,x=>by
  unfold dW
  split
  ·rw[kX]
   by_cases a:x=z.1
   ·rw[ju a.symm,ju a]
   rw[jy (λb=>a b.symm),jy a]
  rw[kX,kX,rp (λe he=>h e (xm _ he))];have b:=h e (qx ..)
  by_cases a:e.1=x
  ·rw[ju a,ju a,jy (by rw[<-a];exact b)]
  rw[jy a,jy a]
theorem pK(h:Str t)(d:N):Str (dk t d):=List.Pairwise.filter _ h
theorem tQ:∀{t:je (N×N)},Str t->(∀e∈t,e.1≠z.1)->Str (dW z t)
 |[],_,_=>by unfold dW Str;simp
 |e::t,c,h=>by
  have b:=q4.1 c;have f:=h e (qx ..);unfold dW
  split
  ·rename_i d
   refine q4.2 ⟨λy a=>?_,c⟩
   rcases jW.1 a with rfl|a
   ·exact d
   have:=b.1 y a;omega
  refine q4.2 ⟨λy a=>?_,tQ b.2 (λe he=>h e (xm _ he))⟩
  rcases oS a with rfl|a
  ·omega
  exact b.1 y a
theorem FM(h:z∈dk t d):z∈t/\¬Und (512+d) z.1:=by
 unfold dk at h;obtain⟨b,a⟩:=xi.1 h;refine⟨b,λc=>?_⟩;rw[kO c]at a
 cases a
theorem oF{x:N}(a:Und (512+d) x):∀e∈dk t d,e.1≠x:=λe he h=>(FM he).2 (by rw[h];exact a)
theorem GX(h:r.Nodup):Str (di p (r.mergeSort leI)):=by
 have c:(r.mergeSort leI).Pairwise (·<·):=by
  have a:=uS r;have b:(r.mergeSort leI).Nodup:=(qz r leI).nodup_iff.2 h;exact(a.and b).imp λh=>by have:=h.1;have:=h.2;omega
 unfold Str di;rw[qX];exact c
theorem Ol(a:je N)(x:N):aN (di p a) x=if x∈a then jb ((p x).getD 0)else jc:=by
 induction a with
 |nil=>rfl
 |cons y a b=>
  show aN ((y,(p y).getD 0)::di p a) x=_;rw[kX,b]
  by_cases h:y=x
  ·subst h;simp
  have:¬x=y:=λc=>h c.symm
  simp[h,this]
theorem Po(h:iZ p r)(x:N)(b:aH x):aN (di p (r.mergeSort leI)) x=p x:=by
 rw[Ol]
 by_cases a:x∈r
 ·rw[ju ((ti r x).2 a)]
  obtain⟨v,c⟩:=xT.1 (h.2.1 x a).2;rw[c];rfl
 rw[jy (λc=>a ((ti r x).1 c))]
 cases hf:p x with
 |none=>rfl
 |some v=>exact jB (h.2.2 x b (by rw[hf];rfl)) a
theorem oO(h:bp w a t):Wf t:=by obtain⟨p,c,-,-,-,-,h⟩:=h;exact h
theorem zb(h:iZ p r)(b:Wf (di p (r.mergeSort leI))){t:je (N×N)}(c:Str t)(d:Wf t)(e:∀x,aH x->p x=aN t x):di p (r.mergeSort leI)=t:=
 L6 (GX h.1) c b d (λx a=>by rw[Po h x a,e x a])
theorem vR(a:0<=d)(b:d<512)(x:N):fT (aN t) ((512+d)::bD d) x=aN (dk t d) x:=by
 rw[uJ];unfold fT
 by_cases h:x∈(512+d)::bD d
 ·rw[ju h,ju (kO ((nY d a b x).1 h))]
 rw[jy h,jy (λc=>h ((nY d a b x).2 ((tG _ _).1 c)))]
theorem IG(a:0<=d)(b:d<512)(y:N):g7 t d o y=aN (dW (512+d,o) (dk t d)) y:=by
 rw[rp (oF (mK Y))];unfold g7
 by_cases h:y=512+d
 ·rw[ju h,ju h]
 rw[jy h,jy h];exact vR a b y
theorem yV{m:jE}(h:dc t d m=0):bW t=0/\0<=d/\d<512:=by
 have a:=wE h;refine⟨?_,a.1,a.2⟩;unfold dc at h
 split at h
 ·assumption
 exact h
theorem uM(i:0<=d)(p:d<512){k:ja}(hk:k<=9):1<=(512+d)/2^k/\∀j,j<k->(512+d)/2^k<(512+d)/2^j:=by
 obtain⟨n,rfl⟩:=m0 i;have h:∀n:Fin 512,∀k:Fin 10,1<=(512+n.val)/2^k.val:=by decide+kernel
 have c:∀j:ja,(512+(n:N))/2^j=(((512+n)/2^j:ja):N):=λj=>by
  rw[xj];push_cast;rfl
 have g:∀k,k<=9->1<=(512+n)/2^k:=λk hk=>h ⟨n,by omega⟩ ⟨k,by omega⟩
 have l:∀k,(512+n)/2^(k+1)=(512+n)/2^k/2:=λk=>by rw[Nat.pow_succ,xS]
 have m:∀k,k<=9->∀j,j<k->(512+n)/2^k<(512+n)/2^j:=by
  intro k
  induction k with
  |zero=>intro _ j e;omega
  |succ k o=>
   intro hk j e;have a:=g k Y;have b:=l k
   rcases qY (qZ e)with f|f
   ·have:=o Y j f;omega
   rw[f];omega
 refine⟨by rw[c];have:=g k hk;omega,λj e=>by rw[c,c];have:=m k hk j e;omega⟩
theorem PP(a:0<=d)(b:d<512){k:ja}(hk:k<=9):Und (512+d) ((512+d)/2^k):=⟨(uM a b hk).1,k,I⟩
theorem Hs(b:0<=d)(c:d<512)(h:Und (512+d) o):∃k,k<=9/\o=(512+d)/2^k:=by
 obtain⟨e,j,a⟩:=h;refine⟨j,?_,a.symm⟩
 rcases pa 9 j with h|h
 ·have f:(512+d)/2^j=0:=by
   have g:(1024:N)<=2^j:=by
    have:=Nat.pow_le_pow_right (n:=2) G (show 10<=j from h)
    exact_mod_cast this
   exact Int.ediv_eq_zero_of_lt Y Y
  omega
 exact h
theorem JO(a:0<=d)(c:d<512){k:ja}(hk:k<9):(bD d).getD k 0=(512+d)/2^(k+1):=by
 obtain⟨n,rfl⟩:=m0 a;have h:∀n:Fin 512,∀k:Fin 9,(iw n.val).getD k.val 0=(512+n.val)/2^(k.val+1):=by decide+kernel
 have b:=h ⟨n,by omega⟩ ⟨k,hk⟩;have f:=sA (n:N) a c;have e:bD (n:N)=(iw n).map λm:ja=>(m:N):=by simp[bD]
 have g:k<(iw n).length:=by rw[e,jF]at f;omega
 rw[e];simp only[jQ,j5,lm g,wi,sq]at b⊢;rw[b,xj];push_cast;rfl
theorem En:∀{k:ja} {e:N×N},e∈i6 t d r k->e∈dk t d\/∃j,j<k/\e=((512+d)/2^j,r.getD j 0)
 |0,e,h=>.inl h
 |k+1,e,h=>by
  unfold i6 at h
  rcases oS h with rfl|h
  ·exact .inr ⟨k,Nat.lt_succ_self _,I⟩
  rcases En h with h|⟨j,a,h⟩
  ·exact .inl h
  exact .inr ⟨j,Nat.lt_succ_of_lt a,h⟩
theorem Ce(a:0<=d)(b:d<512){k:ja}(hk:k<=9):∀e∈i6 t d r k,e.1≠(512+d)/2^k:=by
 intro e he
 rcases En he with h|⟨j,c,rfl⟩
 ·exact oF (PP a b hk) e h
 have:=(uM a b hk).2 j c;show(512+d)/2^j≠_;omega
theorem F4(a:Str t)(b:0<=d)(c:d<512):∀{k:ja},k<=10->Str (i6 t d r k)
 |0,_=>pK a d
 |k+1,hk=>tQ (F4 a b c Y) (Ce b c Y)
theorem An(a:0<=d)(b:d<512){k:ja}(hk:k<=9)(x:N):aN (i6 t d r (k+1)) x=if x=(512+d)/2^k then jb (r.getD k 0)else aN (i6 t d r k) x:=
 rp (Ce a b hk) x
theorem Gs(a:0<=d)(b:d<512)(x:N):∀k,k<=9->eC t d r k x=aN (i6 t d r (k+1)) x
 |0,hk=>by
  rw[An a b hk];unfold eC;simp only[Int.pow_zero,Int.ediv_one]
  by_cases h:x=512+d
  ·rw[ju h,ju h]
  rw[jy h,jy h];exact vR a b x
 |k+1,hk=>by
  rw[An a b hk];unfold eC;rw[JO a b Y,Gs a b x k Y]
theorem Qu(t:je (N×N))(v:jl)(d x:N)(w:jh)(b:bp w v t)(q:t.length<=800000)(i:aH d)(c:aH x):
 jq jk 102 #[jn #[v],T A d,T A x] w λe w'=>∃a,e=jp (jC #[jn #[a],T A (eX t d x)])/\bp w' a (ia t d x)/\ji w w w':=by
 refine(Rc t v d x w b Y i c).mono ?_;rintro e w' ⟨f,j,k⟩
 by_cases h:eX t d x=0
 ·obtain⟨a,xs,rfl,hk,g⟩:=k h
  have l:dc t d jj=0:=by
   unfold eX at h
   split at h
   ·assumption
   exact h
  obtain⟨m,n,o⟩:=yV l;have p:=ib m;refine⟨a,by rw[h],?_,f⟩;unfold ia;rw[ju h,<-zb hk (oO g) (tQ (pK p.1 d) (oF (mK Y))) (λe he=>?_) (λy _=>IG n o y)]
  ·exact g
  rcases oS he with rfl|he
  ·exact⟨aH.of (by show -9223372036854775808<=512+d/\512+d<=9223372036854775807;omega),c⟩
  exact wF (oO b) e he
 refine⟨_,j h,?_,f⟩;unfold ia;rw[jy h];exact rP _
theorem Nz(t:je (N×N))(v:jl)(d:N)(w:jh)(b:bp w v t)(o:t.length<=800000)(g:aH d):
 jq jk 101 #[jn #[v],T A d] w λe w'=>∃a,e=jp (jC #[jn #[a],T A (dc t d jm)])/\bp w' a (l8 t d)/\ji w w w':=by
 refine(Hy t v d w b Y g).mono ?_;rintro e w' ⟨c,i,j⟩
 by_cases h:dc t d jm=0
 ·obtain⟨a,xs,rfl,hk,f⟩:=j h
  obtain⟨k,l,m⟩:=yV h;have n:=ib k;refine⟨a,by rw[h],?_,c⟩;unfold l8;rw[ju h,<-zb hk (oO f) (pK n.1 d) (wF (oO b)) (λy _=>vR l m y)];exact f
 refine⟨_,i h,?_,c⟩;unfold l8;rw[jy h];exact rP _
theorem MQ(t:je (N×N))(v:jl)(d:N)(l:je N)(a:jl)(w:jh)(f:bp w v t)(z:t.length<=800000)(k:aH d)(m:cV w a l)(n:l.length<=1000000)(g:∀j,aH (l.getD j 0)):
 jq jk 60 #[jn #[v],T A d,a] w λe w'=>∃x,e=jp (jC #[jn #[x],T A (eT t d l)])/\(bp w' x (lx t d l)/\Fr w.heap.size x)/\ji w w w':=by
 refine(Hn t v d l a w f Y k m n g).mono ?_;rintro e w' ⟨i,o,p⟩
 by_cases h:eT t d l=0
 ·obtain⟨a,xs,rfl,hk,j,q⟩:=p h
  have r:dc t d jm=0:=by
   unfold eT at h
   split at h
   ·assumption
   exact h
  obtain⟨s,b,c⟩:=yV r;have u:=ib s;refine⟨a,by rw[h],⟨?_,q⟩,i⟩;unfold lx;rw[ju h,<-zb hk (oO j) (F4 u.1 b c (jt 10)) (B2 (oO f) g b c 10) (λy _=>Gs b c y 9 Y)];exact j
 refine⟨_,o h,⟨?_,Fr.nil _⟩,i⟩;unfold lx;rw[jy h];exact rP _
structure co(g:aI):Prop where
 fol:fu g.folder
 ep:0<=g.epoch/\g.epoch<=1099511627776
 tree:bW g.tree=0
 zero:g.epoch=0->g.mem=[]/\g.last=jT 32 0#8
 dev:g.mem.map aK.dev=aY g.tree
 ok:∀m∈g.mem,1<=m.since/\m.since<=g.epoch/\aW m.ver
def lH(x:ak):Prop:=dH x.d/\((x.k=1/\aW x.p/\aW x.v/\x.c=0)\/(x.k=2/\x.p=0/\x.v=0/\0<=x.c/\x.c<=1048576)\/(x.k=3/\aW x.p/\aW x.v/\0<=x.c/\x.c<=1048576))
structure dz(l:je ak):Prop where
 each:∀x∈l,lH x
 once:(l.map ak.d).Nodup
 len:l.length<=64
structure dQ(g:aI)(a:N)(l:je ak):Prop where
 own:cN g.mem a=decide (0<g.epoch)
 first:g.epoch=0->∃x r,l=x::r/\x.d=a
 each:∀x∈l,cN g.mem x.d=decide (x.k≠1)/\(cN g.mem a=jm->x.d≠a)
noncomputable def dP(t:je (N×N))(x:ak):je (N×N):=if x.k=2 then l8 t x.d else ia t x.d x.p
noncomputable def aV(t:je (N×N))(l:je ak):je (N×N):=l.foldl dP t
theorem O5(t:je (N×N))(l:je ak)(x:ak):aV t (l++[x])=dP (aV t l) x:=by unfold aV;rw[List.foldl_append];rfl
theorem Mg(t:je (N×N))(x:ak):(dP t x).length<=t.length+1:=by
 have a:∀d,(dk t d).length<=t.length:=λd=>xh _ _
 unfold dP
 split
 ·unfold l8
  split
  ·have:=a x.d;omega
  simp
 unfold ia
 split
 ·have:=FF (512+x.d,x.p) (dk t x.d);have:=a x.d;omega
 simp
theorem uF(t:je (N×N)):∀l:je ak,(aV t l).length<=t.length+l.length:=by
 intro l
 induction l generalizing t with
 |nil=>simp[aV]
 |cons x l a=>
  have b:=a (dP t x);have c:=Mg t x;show(aV (dP t x) l).length<=_;simp only[j9];omega
def lG(a:N)(x:ak):jE:=decide (x.k=2)||decide (x.d=a)
def fx(l:je ak):je ak:=l.mergeSort λx y=>decide (x.d<=y.d)
def dD(a:N)(l:je ak):je ak:=fx (l.filter λx=> !lG a x)
def eI(a:N):je N:=(gd a.toNat).map λn:ja=>(n:N)
noncomputable def dZ(t:je (N×N))(l:je N)(k:ja):je (N×N):=(l.zipIdx k).flatMap λx=>(dM t x.1).map λn=>((x.2:N),n)
noncomputable def dI(t:je (N×N))(a:N):je (N×N):=dZ t (eI a) 1
def dO(g:aI)(a:N)(l:je ak):N:=match g.mem.find? (λm=>m.dev==a)with
 |some m=>m.ver
 |none=>match l with|x::_=>x.v|[]=>0
structure fK(c:aD):Prop where
 fol:fu c.folder
 ep:1<=c.epoch/\c.epoch<=1099511627776
 aut:dH c.author
 chg:dz c.chg
 plen:c.path.length=10
 blen:c.box.length<=1024
 wlen:c.wel.length<=512
 path:∀p∈c.path,aW p
 box:∀b∈c.box,1<=b.node/\b.node<1024/\1<=b.lev/\b.lev<=9/\lu b.u b.body.length
 wel:∀x∈c.wel,dH x.dev/\lu x.u x.body.length
 inc:∀i,0<i->i<c.wel.length->((c.wel.map Wl.dev).getD (i-1) 0)<((c.wel.map Wl.dev).getD i 0)
noncomputable def fD(c:aD):N:=by classical exact if fK c then 0 else 220
theorem sR{B:aD}(h:fK B):fD B=0:=by unfold fD;rw[ju h]
theorem eO{B:aD}(h:¬fK B):fD B=220:=by unfold fD;rw[jy h]
noncomputable def cK(g:aI)(a:N)(l:je ak):N:=by classical exact if co g then(if dz l/\dQ g a l then 0 else 221)else 1
noncomputable def dj(g:aI)(a:N)(l:je ak):je (N×N):=if cK g a l=0 then dI (aV g.tree l) a else []
theorem iH:cK g d c=0↔co g/\dz c/\dQ g d c:=by
 unfold cK
 by_cases h:co g
 ·rw[ju h]
  by_cases b:dz c/\dQ g d c
  ·rw[ju b];exact⟨λ_=>⟨h,b⟩,λ_=>rfl⟩
  rw[jy b];exact⟨λe=>jB e G,λe=>jB e.2 b⟩
 rw[jy h];exact⟨λe=>jB e G,λe=>jB e.1 h⟩
def aG(g:aI)(vm vt:jl):je jl:=T A g.folder::T A g.epoch::(g.last.map v8++[vm,vt])
structure cr(w:jh)(g:aI)(vm vt:jl):Prop where
 mem:EM.At w vm g.mem
 tree:bp w vt g.tree
 llen:g.last.length=32
theorem cr.below(h:cr w g vm vt)(a:ji w w w'):cr w' g vm vt:=⟨h.mem.below a,h.tree.below a,h.llen⟩
theorem zq(vt:g.last.length=32):(aG g a h).length=36:=by unfold aG;simp[vt]
structure dh(w:jh)(b:ja)(g:aI)(vm vt:jl):Prop where
 blk:w.heap[b]?=jb (jf (aG g vm vt).toArray 29 (0,0))
 llen:g.last.length=32
theorem dh.new(w:jh){g:aI}{vm vt:jl}(h:g.last.length=32):dh (w.alloc (jf (aG g vm vt).toArray 29)) w.heap.size g vm vt:=⟨jw w _,h⟩
theorem dh.lt(vt:dh w b g a h):b<w.heap.size:=(jL.1 vt.blk).1
theorem dh.keep(h:dh w b g vm vt)(hk:w'.heap[b]?=w.heap[b]?):dh w' b g vm vt:=⟨hk.trans h.blk,h.llen⟩
theorem dh.below(h:dh w b g vm vt)(a:ji w w w'):dh w' b g vm vt:=h.keep (a.block b h.lt)
theorem dh.get(vt:dh w b g a h){i:ja}{v:jl}(vm:(aG g a h)[i]?=jb v):w.cell? ⟨b,i,jc⟩=jb v:=
 ae vt.blk (ah vm)
theorem mi(h:g.last.length=32):(aG g vm vt)[0]?=jb (T A g.folder)/\(aG g vm vt)[1]?=jb (T A g.epoch)/\(aG g vm vt)[34]?=jb vm/\(aG g vm vt)[35]?=jb vt:=by
 have a:(g.last.map v8).length=32:=by rw[jF];exact h
 unfold aG;refine⟨I,I,?_,?_⟩
 ·show(g.last.map v8++[vm,vt])[32]?=_
  rw[xq Y,a];rfl
 show(g.last.map v8++[vm,vt])[33]?=_;rw[xq Y,a];rfl
theorem dh.at(h:dh w b g vm vt):w.cell? ⟨b,0,jc⟩=jb (T A g.folder)/\w.cell? ⟨b,1,jc⟩=jb (T A g.epoch)/\w.cell? ⟨b,34,jc⟩=jb vm/\w.cell? ⟨b,35,jc⟩=jb vt:=
 have e:=mi (vm:=vm) (vt:=vt) h.llen
 ⟨h.get e.1,h.get e.2.1,h.get e.2.2.1,h.get e.2.2.2⟩
theorem dh.last(h:dh w b g vm vt):w.rangeAt b 2 (g.last.map v8):=by
 intro j v a;have c:=(oo.1 a).1;refine h.get ?_;unfold aG;rw[show 2+j=j+1+1 by omega,xW,xW,q5 c];exact a
theorem EK.At.mems{l:je aK}(h:EM.At w a l):mZ w a l:=by
 obtain⟨v,p,c,b,d,f,i⟩:=h;refine⟨v,p,c,b,d,f,λj=>?_⟩;obtain⟨g,o,e,k⟩:=i j;exact⟨g,o,e,trivial,k⟩
theorem lC(h:g.last.length=32):(jk.info? 29).map (·.size)=jb (aG g vm vt).toArray.size:=by
 rw[j3,zq h];kernel_rfl
theorem vU(g:aI)(vm vt:jl)(d:N)(w:jh)(a:EM.At w vm g.mem)(i:k6 g.mem)(q:g.mem.length<=1000000)(r:g.last.length=32):
 jq jk 96 #[jn (aG g vm vt).toArray,T A d] w λe w'=>e=jp (jC #[T A (kL g.mem d:ja),.bool (cN g.mem d)])/\ji w w w':=by
 have j:=dh.new w (vm:=vm) (vt:=vt) r;have b:=ai w (jf (aG g vm vt).toArray 29);have f:=O (Qx g.mem i vm d _ (a.mems.below b) q);have h:=O b;obtain⟨k,l,m,n⟩:=j.at;obtain⟨p,c,rfl,-,-⟩:=a.form;obtain⟨s,o⟩:=J ((aG g (jg p g.mem.length c) vt).toArray);rw[<-o]at k l m n f h⊢;clear j b a i o
 go_enter func96,ntmps96
 go_wp2_with fail
 refine(f).mono ?_;rintro e i ⟨rfl,a⟩;have b:=ac h a;clear a f k l m n h
 go_wp2_with fail
 go_ret2;exact⟨I,b⟩
noncomputable def fF(ep:N)(m:aK):jE:=decide (m.since<1)||decide (ep<m.since)||decide (b7 m.ver≠0)
theorem MM(g:aI)(vm vt:jl)(b:ja)(m:aK)(w:jh)(l:dh w b g vm vt):
 jq jk 91 #[jn m.cells.toArray,jz (jb ⟨b,0,jc⟩)] w λe w'=>e=jp (.bool (fF g.epoch m))/\ji w w w':=by
 obtain⟨md,a,f⟩:=m;obtain⟨r,c⟩:=J (fF g.epoch ⟨md,a,f⟩);rw[<-c];have i:=O c;unfold aK.cells;have d:=ai w (jf #[T A md,T A a,T A f] 43);obtain⟨-,n,-,-⟩:=(l.below d).at;have h:=O d;have j:=O (fO f);obtain⟨p,k⟩:=J (b7 f);rw[<-k]at j;have q:=O k;obtain⟨ep,he⟩:=J g.epoch;rw[<-he]at n;have o:=O he;clear c d l k he
 by_cases c:a<1
 ·have k:decide (a<1)=jm:=ah c
  obtain rfl:r=jm:=by rw[i];unfold fF;simp[c]
  go_enter func91,ntmps91
  go_wp2_with fail
  go_ret;exact⟨I,h⟩
 have k:decide (a<1)=jj:=ah c
 by_cases d:ep<a
 ·have l:decide (ep<a)=jm:=ah d
  obtain rfl:r=jm:=by rw[i];unfold fF;rw[<-o];simp[d]
  go_enter func91,ntmps91
  go_wp2_with fail
  go_ret;exact⟨I,h⟩
 have l:decide (ep<a)=jj:=ah d;have s:jd (r=decide (p≠0)):=O (by rw[i];unfold fF;rw[<-o,<-q];simp[c,d]);clear c d
 go_enter func91,ntmps91
 go_wp2_with fail
 refine(j _).mono ?_;rintro e t ⟨rfl,c⟩;have d:=ac h c;clear c j h n
 go_wp2_with fail
 go_ret;exact⟨ku (by rw[s];exact F9 _ _),d⟩
theorem Jt(m:aK)(d:N)(w:jh):
 jq jk 92 #[jn m.cells.toArray,T A d] w λe w'=>e=jp (.bool (m.dev==d))/\ji w w w':=by
 obtain⟨md,a,b⟩:=m;unfold aK.cells;have c:=O (ai w (jf #[T A md,T A a,T A b] 43))
 go_enter func92,ntmps92
 go_wp2_with fail
 go_ret;exact⟨I,c⟩
theorem Ba(g:aI)(vm vt:jl)(b a:ja)(c:b<a):fW EM 91 #[jz (jb ⟨b,0,jc⟩)] a (λW=>dh W b g vm vt) (fF g.epoch) where
 enter _ _:=I
 keep w w' hn h hB:=h.keep (hB.block b c)
 call x w hn h:=MM g vm vt b x w h
theorem Kl(a:N)(b:ja)(x:ak)(w:jh)(k:jA w b 3 (T A a)):
 jq jk 120 #[jn x.cells.toArray,jz (jb ⟨b,0,jc⟩)] w λe w'=>e=jp (.bool (lG a x))/\ji w w w':=by
 obtain⟨c,f,g,h,i⟩:=x;obtain⟨r,d⟩:=J (lG a ⟨c,f,g,h,i⟩);rw[<-d];have l:=O d;unfold ak.cells;have j:=ai w (jf #[T A c,T A f,T A g,T A h,T A i] 47);have n:(w.alloc (jf #[T A c,T A f,T A g,T A h,T A i] 47)).cell? ⟨b,0,jc⟩=jb (T A a):=aB k.cell j;have m:=O j;clear d j k
 by_cases d:c=2
 ·subst d
  obtain rfl:r=jm:=by rw[l];unfold lG;simp
  go_enter func120,ntmps120
  go_wp2_with fail
  go_ret;exact⟨I,m⟩
 have k:(c==2)=jj:=ah d;have o:decide (c=2)=jj:=ah d;have j:jd (r=(f==a)):=O (by rw[l];unfold lG;simp[d];rfl);clear d
 go_enter func120,ntmps120
 go_wp2_with fail
 go_ret;exact⟨ku j.symm,m⟩
theorem Qs(a:N)(b c:ja)(d:b<c):fW EC 120 #[jz (jb ⟨b,0,jc⟩)] c (λW=>jA W b 3 (T A a)) (lG a) where
 enter _ _:=I
 keep w w' hn h hB:=(hB.block b d).trans h
 call x w hn h:=Kl a b x w h
theorem k8{P:jU}{b:jD j0}{c:Exit->Act->jh->Prop}{a:Act}{w:jh}{d:je j0}{o:j0}(e:Region.wanted o (yielded b a.tmps)=jm)
 (h:∀K:Act->jh->Prop,(∀a w,wpList P b c d a w->K a w)->o.wp P a w K c):wpList P b c (o::d) a w:=
 wpList_step λK f=>by rw[ju e];exact h K f
theorem wT(n m:N):(n==m)=decide (n=m):=by by_cases h:n=m<;>simp[h]
theorem Gp{l:je aK}(c:l.length=r.length)(h:∀t,t<l.length->(l.getD t bP).dev=r.getD t 0):l.map aK.dev=r:=by
 refine List.ext_getElem (by rw[jF];exact c) λi a d=>?_
 have b:i<l.length:=by rw[jF]at a;exact a
 have:=h i b;rw[eE _ b,eE _ d]at this;rw[q6];exact this
theorem OT{l:je aK}(hk:b<l.length)(h:(l.getD b bP).dev≠r.getD b 0):¬l.map aK.dev=r:=λe=>by
 apply h
 rw[<-e,eE _ hk,eE _ (by rw[jF];exact hk),q6]
theorem uv(l:je aK)(r:je N)(v M:jl)(w:jh)(h:EM.At w v l)(hu:cV w M r)(hl:l.length<=1000000)(hr:r.length<=1000000):
 jq jk 93 #[v,M,.func (.func 92) #[] #[]] w λe w'=>e=jp (.bool (decide (l.map aK.dev=r)))/\ji w w w':=by
 obtain⟨C,a⟩:=J (decide (l.map aK.dev=r));rw[<-a];have D:=O a;obtain⟨p,c,rfl,hc,-⟩:=h.form;obtain⟨q,d,rfl,hd,g⟩:=hu;have P:=O h;have HV:=O g;obtain⟨n,b⟩:=J l.length;obtain⟨m,f⟩:=J r.length;have s:=O b;have z:=O f;rw[<-b]at hl hc P⊢;rw[<-f]at hr hd⊢;have EG:∀args w,(oi 92 args).run jk w=.ok (.enter 92 args) w:=λ_ _=>rfl
 clear h g b f a
 by_cases f:n=m
 ·have aa:((n:N)!=(m:N))=jj:=by simp[f]
  have ad:((n:N)==(m:N))=jm:=by simp[f]
  have B:=O f;clear f
  go_enter func93,ntmps93
  go_wp2_with fail
  go_loopw [17] (λi wr=>∃k:ja,i=T A k/\k<=n/\jd (∀t,t<k->(l.getD t bP).dev=r.getD t 0)/\jd (ji w w wr)) (λi _=>n-(js i).toNat)
  case atStart=>exact⟨0,I,jS _,O (λt Q=>jB Q Y),O (jG _ _)⟩
  obtain⟨k,rfl,hk,R,b⟩:=hrel
  by_cases E:k<n
  ·have al:=ao ((k:N)<(n:N))
   have au:=ao (k<n);have Z8:k<m:=aA B;have a1:=ao ((k:N)<(m:N));have a2:=ao (k<m);obtain⟨e,he,-⟩:=dF (l:=l) (j:=k) (by rw[<-s];exact E);obtain⟨g,o,rfl,h⟩:=(P.cells).2.2 Y;obtain⟨S,U,rfl,V⟩:=HV.out (by rw[<-z,<-B];omega);have x:=V k (by rw[<-z,<-B];exact E);have X:l.getD k bP=e:=by simp[jQ,he]
   have HE:=O X;obtain⟨y,F⟩:=J (r.getD k 0);rw[<-F]at x;have HY:=O F;obtain⟨a,i,u⟩:=e;have c0:wr.cell? ⟨g,o+k*3,jc⟩=jb (T A a):=aB (h k _ he 0 _ I) b;have c1:wr.cell? ⟨g,o+k*3+1,jc⟩=jb (T A i):=aB (h k _ he 1 _ I) b;have c2:wr.cell? ⟨g,o+k*3+2,jc⟩=jb (T A u):=aB (h k _ he 2 _ I) b;have H:=ai wr (jf #[T A a,T A i,T A u] 43);have c3:wr.cell? ⟨S,U+k,jc⟩=jb (T A y):=aB x b;have c4:(wr.alloc (jf #[T A a,T A i,T A u] 43)).cell? ⟨S,U+k,jc⟩=jb (T A y):=aB c3 H;have HC:jd (∀W,jq jk 92 #[jn #[T A a,T A i,T A u],T A y] W λe w'=>e=jp (.bool (a==y))/\ji W W w'):=O (Jt ⟨a,i,u⟩ y);have K:=O H;clear h V x X F he H
   go_wp2_with fail
   refine(HC _).mono ?_;rintro x W ⟨rfl,h⟩;have F:=O (b.trans ((K.trans (h.mono K.size)).mono b.size));clear h HC c0 c1 c2 c3 c4 K
   by_cases h:a=y
   ·have K:(a==y)=jm:=ah h
    have V:jd (∀t,t<k+1->(l.getD t bP).dev=r.getD t 0):=O (λt Q=>by
     rcases pa t k with H|H
     ·exact R t H
     obtain rfl:t=k:=Y;rw[HE,<-HY];exact h)
    clear h
    go_wp2_with fail
    exact⟨⟨k+1,by go_num,by omega,V,F⟩,by simp only[js];omega⟩
   have K:(a==y)=jj:=ah h;obtain rfl:C=jj:=by
    rw[D,decide_eq_false_iff_not];exact OT (by rw[<-s];exact E) (by rw[HE,<-HY];exact h)
   clear h
   go_wp2_with fail
   go_ret;exact⟨I,F⟩
  have al:=ap ((k:N)<(n:N));have au:=ap (k<n);obtain rfl:k=n:=Y;obtain rfl:C=jm:=by
   rw[D,decide_eq_true_iff];exact Gp (by rw[<-s,<-z];exact B) (by rw[<-s];exact R)
  go_wp2_with fail
  go_ret;exact⟨I,b⟩
 have aa:((n:N)!=(m:N))=jm:=by simp;omega
 have ad:((n:N)==(m:N))=jj:=by simp;omega
 obtain rfl:C=jj:=by
  rw[D,decide_eq_false_iff_not];intro e;have:=jv List.length e;rw[jF,<-s,<-z]at this;exact f this
 clear f
 go_enter func93,ntmps93
 go_wp2_with fail
 go_ret;exact⟨I,jG _ _⟩
theorem sH(a b:af)(f:a.length=32)(g:b.length=32)(z:jh):
 (Op.equalIn 10000 23 (jn (a.map v8).toArray) (jn (b.map v8).toArray)).run jk z=.ok (decide (a=b)) z:=by
 have h:=zt (P:=jk) (t:=23) (e:=5) (n:=32) (k:=.u8) xw xz ag ag ag (a.map λb=>(b.toNat:N)) (b.map λb=>(b.toNat:N)) (by rw[jF];exact f) (by rw[jF];exact g)
  (by
   intro c d;obtain⟨y,-,rfl⟩:=jN.1 d;have:=y.isLt;exact WalkArith.wf_u8 Y) (by
    intro c d;obtain⟨y,-,rfl⟩:=jN.1 d;have:=y.isLt;exact WalkArith.wf_u8 Y) z
 have e:∀l:af,(l.map λb=>(b.toNat:N)).map (jo .u8)=l.map v8:=λl=>by rw[xo];rfl
 rw[e,e]at h;rw[h]
 congr 1
 have c:(a.map λb=>(b.toNat:N))=(b.map λb=>(b.toNat:N))↔a=b:=by
  refine xI λx y d=>?_
  have:x.toNat=y.toNat:=uy.inj d;exact BitVec.eq_of_toNat_eq this
 simp only[c]
theorem kQ(h:w.ownsRow b 3 1 a r.length (r.map (jo .i64))):cV w a r:=by
 obtain⟨m,p,c,B,d,n,f⟩:=cO.of_own h;refine⟨p,c,B,d,λi=>?_⟩;obtain⟨g,o,e,k⟩:=f i;refine⟨g,o,e,λj v=>k j _ ?_⟩;rw[j5,lm v];simp[jQ,v]
theorem dS(h:cV w a r)(v:ji w w f):cV f a r:=by
 obtain⟨p,c,b,d,w'⟩:=h;refine⟨p,c,b,d,λi=>?_⟩;obtain⟨g,o,e,k⟩:=w' i;exact⟨g,o,e,λj m=>aB (k j m) v⟩
noncomputable def fg(g:aI):jE:=by classical exact decide (co g)
theorem ij(h:¬co g):fg g=jj:=by unfold fg;simpa using h
theorem Cl(h:co g):fg g=jm:=by unfold fg;simpa using h
theorem Cs{m:aK}:fF d m=jj↔1<=m.since/\m.since<=d/\aW m.ver:=by
 unfold fF;have e:(b7 m.ver=0)↔aW m.ver:=⟨λh=>by
  by_cases g:aW m.ver
  ·exact g
  rw[fJ g]at h;exact jB h G,eG⟩
 simp only[Bool.or_eq_false_iff,decide_eq_false_iff_not,Int.not_lt,ne_eq,Classical.not_not,e];exact⟨λh=>⟨h.1.1,h.1.2,h.2⟩,λh=>⟨⟨h.1,h.2.1⟩,h.2.2⟩⟩
theorem AA(e:fu g.folder)(f:0<=g.epoch/\g.epoch<=1099511627776)(h:bW g.tree=0)(i:g.epoch=0->g.mem=[]/\g.last=jT 32 0#8):
 fg g=(decide (g.mem.map aK.dev=aY g.tree)&& !(g.mem.any (fF g.epoch))):=by
 by_cases a:co g
 ·rw[Cl a]
  have b:decide (g.mem.map aK.dev=aY g.tree)=jm:=jO a.dev;have c:g.mem.any (fF g.epoch)=jj:=by
   rw[qf];intro m d;rw[Cs.2 (a.ok m d)];simp
  rw[b,c];rfl
 rw[ij a]
 by_cases b:g.mem.map aK.dev=aY g.tree
 ·have c:g.mem.any (fF g.epoch)=jm:=by
   cases hx:g.mem.any (fF g.epoch)with
   |true=>rfl
   |false=>
    exfalso
    apply a
    rw[qf]at hx;exact⟨e,f,h,i,b,λm d=>Cs.1 (by simpa using hx m d)⟩
  rw[c];simp
 simp[b]
theorem Ep(t:je (N×N)):(aY t).length<=512:=by
 have e:=sX t;have c:=λd=>(ly t d).1
 have f:((aY t).map Int.toNat).Nodup:=by
  have g:((aY t).map Int.toNat).Pairwise (·<·):=qX.2 (e.imp_of_mem λ{a b} h i j=>by have:=(c a h).1;have:=(c b i).1;omega);exact g.imp λh=>wt h
 have:=List.Nodup.length_le_of_subset f (l₂:=qb 512) (λx a=>by
  obtain⟨d,b,rfl⟩:=jN.1 a;have g:=c d b;rw[qv];omega)
 simpa using this
theorem z6(g:aI)(vm vt:jl)(w:jh)(h:cr w g vm vt)(F:g.mem.length<=1000000)(k:g.tree.length<=1000000):
 jq jk 32 #[jn (aG g vm vt).toArray] w λe w'=>e=jp (.bool (fg g))/\ji w w w':=by
 obtain⟨r,o⟩:=J (fg g);rw[<-o];have M:=O o;obtain⟨fo,p⟩:=J (decide (fu g.folder));have a1:=O p;have c:=dh.new w (vm:=vm) (vt:=vt) h.llen;have a:=ai w (jf (aG g vm vt).toArray 29);have d:=h.below a;obtain⟨pm,cm,rfl,H,-⟩:=h.mem.form;obtain⟨t,q⟩:=J g.mem.length;rw[<-q]at c a d H⊢;have Yc:=O q;obtain⟨ad,f⟩:=J ((aG g (jg pm t cm) vt).toArray);obtain⟨m,P,R,n⟩:=c.at;have i:=c.blk;have s:=mi (g:=g) (vm:=jg pm t cm) (vt:=vt) h.llen;have j:=c.last;have u:jd (ad[34]?=jb (jg pm t cm)):=O (by rw[f];simpa using s.2.2.1);have y:jd (ad[35]?=jb vt):=O (by rw[f];simpa using s.2.2.2);rw[<-f]at m P R n i a d j⊢;obtain⟨b,v⟩:=J w.heap.size;rw[<-v]at m P R n i j;obtain⟨W1,z⟩:=J (w.alloc (jf ad 29));rw[<-z]at m P R n i a d j;have Sw:=O z;have TJ:=O v;have Vt:=O f;have K:=O i;have B:=O d;have l:=O a;have Ti:=O h.llen;have Vq:=O k;have Wi:=O F;have Q:=O j;have au:jd ((aY g.tree).length<=1000000):=O (jP (Ep _) G);obtain⟨ck,C⟩:=J (bW g.tree);have U:jd (∀W,bp W vt g.tree->jq jk 90 #[jn #[vt]] W λe w'=>e=jp (T A ck)/\ji W W w'):=O (by rw[C];exact λW x=>uP g.tree vt W x k);have a4:=O C;obtain⟨ep,D⟩:=J g.epoch;rw[<-D]at P;have S:=O D;obtain⟨fd,E⟩:=J g.folder;have V:jd (∀e x,e=g.folder->jq jk 80 #[T A e] x λe w'=>e=jp (.bool fo)/\x=w'):=O (by rw[p];rintro e x rfl;exact CI _ x);rw[<-E]at m;have ba:=O E;clear h o p c a d H q f i s j v z F k C D E
 go_enter func32,ntmps32
 go_upto_region 1 with fail
 rw[<-Sw,<-TJ]
 go_wp2_with fail
 refine(V fd W1 ba).mono ?_;rintro e w1 ⟨rfl,rfl⟩;clear V
 cases fo with
 |false=>
  obtain rfl:r=jj:=by rw[M];exact ij λh=>by have x:=a1.out;rw[jO h.fol]at x;cases x
  go_wp2_with fail
  go_ret;exact⟨I,l⟩
 |true=>
 by_cases a:ep<0
 ·have bb:decide (ep<0)=jm:=ah a
  obtain rfl:r=jj:=by rw[M];exact ij λh=>by have:=h.ep.1;rw[<-S]at this;omega
  clear a
  go_wp2_with fail
  go_ret;exact⟨I,l⟩
 have bb:decide (ep<0)=jj:=ah a
 by_cases x:1099511627776<ep
 ·have bc:decide (1099511627776<ep)=jm:=ah x
  obtain rfl:r=jj:=by rw[M];exact ij λh=>by have:=h.ep.2;rw[<-S]at this;omega
  clear a x
  go_wp2_with fail
  go_ret;exact⟨I,l⟩
 have bc:decide (1099511627776<ep)=jj:=ah x;have a5:=O (show 0<=ep/\ep<=1099511627776 by omega);clear a x
 go_wp2_with fail
 refine(U W1 B.tree).mono ?_;rintro e w1 ⟨rfl,a⟩;have f:=Z K a;have i:=O (B.below a);have k:=ac l a;have bd:jd (w1.rangeAt b 2 (g.last.map v8)):=O (λj v c=>aB (Q j v c) a);replace P:=aB P a;replace R:=aB R a;clear a K B l Q m n U
 by_cases B:ck=0
 case neg=>
  have c:(ck==0)=jj:=ah B;have d:decide (ck=0)=jj:=ah B;have j:(ck !=0)=jm:=ah B;obtain rfl:r=jj:=by rw[M];exact ij λh=>B (by rw[a4];exact h.tree)
  clear B
  go_wp2_with fail
  go_ret;exact⟨I,k⟩
 subst B;have Yd:jd (0=bW g.tree):=a4
 by_cases h4:ep=0
 case pos=>
  subst h4
  by_cases d:0<t
  ·have bf:decide (0<t)=jm:=ah d
   have bg:decide ((0:N)<(t:N))=jm:=ah d;obtain rfl:r=jj:=by rw[M];exact ij λh=>by have:=(h.zero S.symm).1;have e:=Yc.out;rw[this]at e;simp at e;omega
   clear d
   go_wp2_with fail
   go_ret;exact⟨I,k⟩
  have bf:decide (0<t)=jj:=ah d;have bg:decide ((0:N)<(t:N))=jj:=ah d;obtain⟨bh,c⟩:=J ((g.last.map v8).toArray);have bk:=O c;obtain⟨Q,p⟩:=J (decide (g.last=jT 32 0#8));have C:=O p;have j:∀z,(Op.equalIn 10000 23 (jn bh) (jn aT)).run jk z=.ok Q z:=by
   rw[c,p];exact λz=>sH g.last (jT 32 0#8) Ti I z
  clear c p
  go_upto_region 3 with fail
  refine mz ?_;iterate 10 refine bH ?_
  refine k8 aj λ_ c=>wp_load_mid 23 _ I b 2 I (g.last.map v8) _ bd.out xw I (by rw[jF,Ti];kernel_rfl) (c _ _ ?_)
  rw[<-bk];refine L ?_;refine bH ?_
  rcases Q with _|_
  ·obtain rfl:r=jj:=by rw[M];exact ij λh=>by have x:=(h.zero S.symm).2;have B:=C.out;rw[jO x]at B;cases B
   go_wp2_with fail
   go_ret;exact⟨I,k⟩
  have U:jd (r=(decide (g.mem.map aK.dev=aY g.tree)&& !(g.mem.any (fF g.epoch)))):=O (by
   rw[M];exact AA (oj a1.symm) (by rw[<-S];exact a5) Yd.symm (λe=>⟨q8 (by rw[<-Yc];simpa using d),oj C.symm⟩))
  clear C d;obtain⟨Q,p⟩:=J (decide (g.mem.map aK.dev=aY g.tree));obtain⟨wr,V⟩:=J (g.mem.any (fF g.epoch));rw[<-p,<-V]at U;have C:jd (decide (g.mem.map aK.dev=aY g.tree)=Q):=O p.symm;have a2:=O V;clear p V
  go_upto_region 7 with fail
  clear P R j;refine lw ?_;refine bY (λn=>n.heap[b]?=jb (jf ad 29 (0,0))) (.t 0 (.t 1 (.t 2 (.t 3 (.t 5 (.o 4 (.o 6 (.t 7 (.t 8 (.t 9 (.t 10 (.o 11 (.t 12 (.t 13 (.t 14 .done))))))))))))))) ag ag ag G (λ_ _ _ _ h=>h) f ?_;obtain⟨x0,al⟩:=J w1.drew;have a:=bz w1;rw[<-al]at a⊢;have D:=Z f a;have o:=O (i.below a);have l:=ac k a;clear a al f i k
  cases Q with
  |true=>
   refine aL ?_
   (refine aE (v:=?_) I aj (λn d=>?_) ?_;rotate_left;(have E:=ae d u;have F:=ae d y;go_simp;with_reducible rfl);refine L ?_)
   refine aL ?_
   (refine aE (v:=?_) I aj (λn d=>?_) ?_;rotate_left;(have E:=ae d u;have F:=ae d y;go_simp;with_reducible rfl);refine L ?_)
   refine aL ?_;refine ar I (λq c=>?_);go_simp;refine(rY g.tree vt x0 o.tree Vq).mono ?_;rintro e W ⟨a3,rfl,m,a⟩;have s:=O (kQ m);obtain⟨pu,cu,rfl,X,aa⟩:=kQ m;clear m X aa;have k:=ac l a;have f:=Z D a;have i:=O (o.below a);clear l D o;clear a;refine c _ _ f.out λ_=>?_
   clear c;refine L ?_;refine ar I (λq c=>?_);go_simp;refine(uv g.mem (aY g.tree) _ _ W i.mem s Wi au).mono ?_;rintro e x2 ⟨rfl,a⟩;rw[C];have H:=ac k a;have j:=Z f a;have K:=O (i.below a);clear k f i s;clear a;refine c _ _ j.out λ_=>?_
   clear c;refine L ?_;iterate 2 refine aL ?_
   (refine aE (v:=?_) I aj (λn d=>?_) ?_;rotate_left;(have E:=ae d u;have F:=ae d y;go_simp;with_reducible rfl);refine L ?_)
   refine aL ?_;refine ar I (λq c=>?_);rw[ju aj];go_simp;refine(D4 (Ba g (jg pm t cm) vt b x2.heap.size (jL.1 j).1) g.mem _ x2 K.mem ⟨by rw[j,Vt],Ti⟩ (jt _) Wi).mono ?_;rintro e x3 ⟨rfl,a⟩;rw[<-a2];have RI:=ac H a;have Ve:=Z j a;have ZL:=O (K.below a);clear H j K;clear a;refine c _ _ Ve.out λ_=>?_
   clear c;refine L ?_;iterate 3 refine aL ?_
   refine j4 ?_
   go_wp2_with fail
   go_ret;exact⟨by rw[U];rfl,RI⟩
  |false=>
   refine aL ?_
   (refine aE (v:=?_) I aj (λn d=>?_) ?_;rotate_left;(have E:=ae d u;have F:=ae d y;go_simp;with_reducible rfl);refine L ?_)
   refine aL ?_
   (refine aE (v:=?_) I aj (λn d=>?_) ?_;rotate_left;(have E:=ae d u;have F:=ae d y;go_simp;with_reducible rfl);refine L ?_)
   refine aL ?_;refine ar I (λq c=>?_);go_simp;refine(rY g.tree vt x0 o.tree Vq).mono ?_;rintro e W ⟨a3,rfl,m,a⟩;have s:=O (kQ m);obtain⟨pu,cu,rfl,X,aa⟩:=kQ m;clear m X aa;have k:=ac l a;have f:=Z D a;have i:=O (o.below a);clear l D o;clear a;refine c _ _ f.out λ_=>?_
   clear c;refine L ?_;refine ar I (λq c=>?_);go_simp;refine(uv g.mem (aY g.tree) _ _ W i.mem s Wi au).mono ?_;rintro e x2 ⟨rfl,a⟩;rw[C];have H:=ac k a;have j:=Z f a;have K:=O (i.below a);clear k f i s;clear a;refine c _ _ j.out λ_=>?_
   clear c;refine L ?_;refine aL ?_;iterate 3 refine ik ?_
   refine ar I (λq c=>?_);rw[jy (q9.1 aj)];refine c _ _ j.out λ_=>?_
   clear c;refine L ?_;refine ik ?_;iterate 2 refine aL ?_
   refine j4 ?_
   go_wp2_with fail
   go_ret;exact⟨by rw[U];rfl,H⟩
 have z:decide (ep=0)=jj:=ah h4;have bf:(ep==0)=jj:=ah h4;have U:jd (r=(decide (g.mem.map aK.dev=aY g.tree)&& !(g.mem.any (fF g.epoch)))):=O (by rw[M];exact AA (oj a1.symm) (by rw[<-S];exact a5) Yd.symm (λe=>jB (S.trans e) h4));clear h4;obtain⟨Q,p⟩:=J (decide (g.mem.map aK.dev=aY g.tree));obtain⟨wr,V⟩:=J (g.mem.any (fF g.epoch));rw[<-p,<-V]at U;have C:jd (decide (g.mem.map aK.dev=aY g.tree)=Q):=O p.symm;have a2:=O V;clear p V
 go_upto_region 7 with fail
 clear P R;refine lw ?_;refine bY (λn=>n.heap[b]?=jb (jf ad 29 (0,0))) (.t 0 (.t 1 (.t 2 (.t 3 (.t 5 (.o 4 (.o 6 (.t 7 (.t 8 (.t 9 (.t 10 (.o 11 (.t 12 (.t 13 (.t 14 .done))))))))))))))) ag ag ag G (λ_ _ _ _ h=>h) f ?_;obtain⟨x0,al⟩:=J w1.drew;have a:=bz w1;rw[<-al]at a⊢;have D:=Z f a;have o:=O (i.below a);have l:=ac k a;clear a al f i k
 cases Q with
 |true=>
  refine aL ?_
  (refine aE (v:=?_) I aj (λn d=>?_) ?_;rotate_left;(have E:=ae d u;have F:=ae d y;go_simp;with_reducible rfl);refine L ?_)
  refine aL ?_
  (refine aE (v:=?_) I aj (λn d=>?_) ?_;rotate_left;(have E:=ae d u;have F:=ae d y;go_simp;with_reducible rfl);refine L ?_)
  refine aL ?_;refine ar I (λq c=>?_);go_simp;refine(rY g.tree vt x0 o.tree Vq).mono ?_;rintro e W ⟨a3,rfl,m,a⟩;have s:=O (kQ m);obtain⟨pu,cu,rfl,X,aa⟩:=kQ m;clear m X aa;have k:=ac l a;have f:=Z D a;have i:=O (o.below a);clear l D o;clear a;refine c _ _ f.out λ_=>?_
  clear c;refine L ?_;refine ar I (λq c=>?_);go_simp;refine(uv g.mem (aY g.tree) _ _ W i.mem s Wi au).mono ?_;rintro e x2 ⟨rfl,a⟩;rw[C];have H:=ac k a;have j:=Z f a;have K:=O (i.below a);clear k f i s;clear a;refine c _ _ j.out λ_=>?_
  clear c;refine L ?_;iterate 2 refine aL ?_
  (refine aE (v:=?_) I aj (λn d=>?_) ?_;rotate_left;(have E:=ae d u;have F:=ae d y;go_simp;with_reducible rfl);refine L ?_)
  refine aL ?_;refine ar I (λq c=>?_);rw[ju aj];go_simp;refine(D4 (Ba g (jg pm t cm) vt b x2.heap.size (jL.1 j).1) g.mem _ x2 K.mem ⟨by rw[j,Vt],Ti⟩ (jt _) Wi).mono ?_;rintro e x3 ⟨rfl,a⟩;rw[<-a2];have RI:=ac H a;have Ve:=Z j a;have ZL:=O (K.below a);clear H j K;clear a;refine c _ _ Ve.out λ_=>?_
  clear c;refine L ?_;iterate 3 refine aL ?_
  refine j4 ?_
  go_wp2_with fail
  go_ret;exact⟨by rw[U];rfl,RI⟩
 |false=>
  refine aL ?_
  (refine aE (v:=?_) I aj (λn d=>?_) ?_;rotate_left;(have E:=ae d u;have F:=ae d y;go_simp;with_reducible rfl);refine L ?_)
  refine aL ?_
  (refine aE (v:=?_) I aj (λn d=>?_) ?_;rotate_left;(have E:=ae d u;have F:=ae d y;go_simp;with_reducible rfl);refine L ?_)
  refine aL ?_;refine ar I (λq c=>?_);go_simp;refine(rY g.tree vt x0 o.tree Vq).mono ?_;rintro e W ⟨a3,rfl,m,a⟩;have s:=O (kQ m);obtain⟨pu,cu,rfl,X,aa⟩:=kQ m;clear m X aa;have k:=ac l a;have f:=Z D a;have i:=O (o.below a);clear l D o;clear a;refine c _ _ f.out λ_=>?_
  clear c;refine L ?_;refine ar I (λq c=>?_);go_simp;refine(uv g.mem (aY g.tree) _ _ W i.mem s Wi au).mono ?_;rintro e x2 ⟨rfl,a⟩;rw[C];have H:=ac k a;have j:=Z f a;have K:=O (i.below a);clear k f i s;clear a;refine c _ _ j.out λ_=>?_
  clear c;refine L ?_;refine aL ?_;iterate 3 refine ik ?_
  refine ar I (λq c=>?_);rw[jy (q9.1 aj)];refine c _ _ j.out λ_=>?_
  clear c;refine L ?_;refine ik ?_;iterate 2 refine aL ?_
  refine j4 ?_
  go_wp2_with fail
  go_ret;exact⟨by rw[U];rfl,H⟩
def kU(g:aI)(a:N)(x:ak):jE:=(cN g.mem x.d==decide (x.k=1))||(cN g.mem a&&decide (x.d=a))
noncomputable def kB(g:aI)(a:N)(l:je ak):jE:=by classical exact decide (dQ g a l)
theorem rZ:kB g d c=jm↔dQ g d c:=by unfold kB;simp
theorem sc(h:¬dQ g d c):kB g d c=jj:=by unfold kB;simpa using h
theorem CW(l:cN g.mem d=decide (0<g.epoch))(a:g.epoch=0->∃x r,c=x::r/\x.d=d):kB g d c= !(c.any (kU g d)):=by
 have e:∀x:ak,kU g d x=jj↔(cN g.mem x.d=decide (x.k≠1)/\(cN g.mem d=jm->x.d≠d)):=λx=>by
  unfold kU
  cases cN g.mem x.d<;>cases cN g.mem d<;>by_cases b:x.k=1<;>by_cases f:x.d=d<;>simp[b,f]
 rw[qi,rZ,Bool.not_eq_true',qf]
 constructor
 ·intro h x b
  rw[(e x).2 (h.each x b)];simp
 intro h;exact⟨l,a,λx b=>(e x).1 (by simpa using h x b)⟩
theorem H6(g:aI)(vm vt:jl)(a:N)(f:jE)(s t u:ja)(x:ak)(w:jh)(k:dh w s g vm vt)(K:EM.At w vm g.mem)(M:k6 g.mem)(P:g.mem.length<=1000000)
 (v:jA w t 4 (.bool f)) (y:jA w u 3 (T A a)) (Q:f=cN g.mem a):
 jq jk 97 #[jn x.cells.toArray,jz (jb ⟨s,0,jc⟩),jz (jb ⟨t,0,jc⟩),jz (jb ⟨u,0,jc⟩)] w λe w'=>e=jp (.bool (kU g a x))/\ji w w w':=by
 obtain⟨c,b,l,m,n⟩:=x;obtain⟨r,o⟩:=J (kU g a ⟨c,b,l,m,n⟩);rw[<-o];have HR:=O o;unfold ak.cells;have d:=ai w (jf #[T A c,T A b,T A l,T A m,T A n] 47);have p:=jw w (jf #[T A c,T A b,T A l,T A m,T A n] 47);have j:=O (vU g vm vt b _ (K.below d) M P k.llen);have q:=(k.below d).blk;have z:=lC (vm:=vm) (vt:=vt) k.llen;obtain⟨aa,R⟩:=J ((aG g vm vt).toArray);rw[<-R]at j q z;obtain⟨W0,C⟩:=J (w.alloc (jf #[T A c,T A b,T A l,T A m,T A n] 47));obtain⟨B,D⟩:=J w.heap.size;rw[<-C]at j q d p;rw[<-D]at p;have S:=O q;have Sb:=O z;have U:=O d;have E:=O p;have V:=O ((d.block _ v.lt).trans v);have W:=O ((d.block _ y.lt).trans y);have ad:=O C;have TJ:=O D;obtain⟨F,H⟩:=J (cN g.mem b);rw[<-H]at j;have h:jd (r=((F==decide (c=1))||(f&&decide (b=a)))):=O (by rw[o,H,Q];rfl);have X:=ae (i:=1) E I;clear d p q z R C D o H k K M P v y Q
 go_enter func97,ntmps97
 go_upto_region 1 with fail
 rw[<-ad,<-TJ];refine mz ?_;refine n0 I 29 _ I s I 29 aa (0,0) _ S.out qm I Sb ?_
 go_wp2_with fail
 refine(j).mono ?_;rintro e o ⟨rfl,k⟩;have p:=Z E k;have q:jd (jA o t 4 (.bool f)):=Z V k;have v:jd (jA o u 3 (T A a)):=Z W k;have d:=ac U k;clear k j E V W U S X;have y:=ae (i:=0) p I;have X:=ae (i:=1) p I;have z:=q.cell;have C:=v.cell
 by_cases hk:c=1
 case pos=>
  subst hk
  cases F with
  |true=>
   obtain rfl:r=jm:=by rw[h];simp
   go_wp2_with fail
   go_ret;exact⟨I,d⟩
  |false=>
   cases f with
   |true=>
    have j:jd (r=(b==a)):=O (by rw[h];simp;rfl)
    go_wp2_with fail
    go_ret;exact⟨ku j.symm,d⟩
   |false=>
    obtain rfl:r=jj:=by rw[h];simp
    go_wp2_with fail
    go_ret;exact⟨I,d⟩
 have D:(c==1)=jj:=ah hk;have k:decide (c=1)=jj:=ah hk;clear hk
 rcases F with _|_
 ·obtain rfl:r=jm:=by rw[h,k];simp
  go_wp2_with fail
  go_ret;exact⟨I,d⟩
 cases f with
 |true=>
  have j:jd (r=(b==a)):=O (by rw[h,k];simp;rfl)
  go_wp2_with fail
  go_ret;exact⟨ku j.symm,d⟩
 |false=>
  obtain rfl:r=jj:=by rw[h,k];simp
  go_wp2_with fail
  go_ret;exact⟨I,d⟩
theorem OH(g:aI)(vm vt:jl)(a:N)(c:jE)(d e f:ja)(b:jh)(k:dh b d g vm vt)(l:EM.At b vm g.mem)(m:k6 g.mem)(n:g.mem.length<=1000000)
 (i:jA b e 4 (.bool c)) (j:jA b f 3 (T A a)) (o:c=cN g.mem a):
 fW EC 97 #[jz (jb ⟨d,0,jc⟩),jz (jb ⟨e,0,jc⟩),jz (jb ⟨f,0,jc⟩)] b.heap.size (λW=>ji b b W) (kU g a) where
 enter _ _:=I
 keep w w' hn h hB:=h.trans hB
 call x w hn h:=H6 g vm vt a c d e f x w (k.below h) (l.below h) m n ((h.block _ i.lt).trans i) ((h.block _ j.lt).trans j) o
theorem sT(h:co g):k6 g.mem:=by
 intro i j c a;have b:=sX g.tree;rw[<-h.dev]at b;have:=(xp.1 b) i j (by rw[jF];omega) (by rw[jF];exact a) c;rw[q6,q6]at this;rw[eE _ Y,eE _ a];exact this
theorem MN(g:aI)(vm vt vl:jl)(a:N)(l:je ak)(w:jh)(h:cr w g vm vt)(f:co g)(z:g.mem.length<=1000000)(E:EC.At w vl l)(hl:l.length<=1000000):
 jq jk 34 #[jn (aG g vm vt).toArray,T A a,vl] w λe w'=>e=jp (.bool (kB g a l))/\ji w w w':=by
 obtain⟨r,F⟩:=J (kB g a l);rw[<-F];have k:=O F;have j:=ai w (jf (aG g vm vt).toArray 29);have H:=dh.new w (vm:=vm) (vt:=vt) h.llen;obtain⟨B,b⟩:=J (w.alloc (jf (aG g vm vt).toArray 29));rw[<-b]at j H;have m:=ai B (jf #[T A a] 3);have d:=Boxed.new B 3 (T A a);have K:=H.below m;obtain⟨W2,M⟩:=J (B.alloc (jf #[T A a] 3));rw[<-M]at m d K;have o:=j.trans (m.mono j.size);have s:=h.below o;have P:=E.below o;have x:=O (vU g vm vt a W2 s.mem (sT f) z s.llen);have Q:=lC (vm:=vm) (vt:=vt) h.llen;have u:=K.blk;obtain⟨au,R⟩:=J ((aG g vm vt).toArray);rw[<-R]at b x Q u⊢;obtain⟨C,y⟩:=J w.heap.size;obtain⟨p,S⟩:=J B.heap.size;rw[<-y]at u;rw[<-S]at d;obtain⟨pl,cl,rfl,SQ,-⟩:=E.form;obtain⟨n,U⟩:=J l.length;obtain⟨q,V⟩:=J (cN g.mem a);obtain⟨ep,D⟩:=J g.epoch;have a1:=O f.ep.1;have a2:=O (sT f);rw[<-V]at x;rw[<-U]at SQ P⊢;have a3:=O b;have a4:=O M;have a5:=O y;have We:jd (p=C+1):=O (by rw[S,y,b];simp);have Vt:=O R;have Sb:=O Q;have W:=O u;have X:=O d;have RE:=O o;have Vv:=O s;have R3:=O P;have Uv:=O U;have t:=O V;have c:=O D;have ba:=O hl;have bb:=O z;have bd:jd (p<W2.heap.size):=O d.lt;clear F j H b m d K M o s P Q u R y S U V D E hl z h f
 go_enter func34,ntmps34
 go_upto_region 1 with fail
 rw[<-a3,<-a5,<-a4,<-We];refine mz ?_;refine n0 I 29 _ I C I 29 au (0,0) _ W.out qm I Sb ?_;have P:=X.cell
 go_wp2_with fail
 refine(x).mono ?_;rintro e u ⟨rfl,b⟩;have j:=Z W b;have m:jd (jA u p 3 (T A a)):=Z X b;have y:=O (Vv.below b);have z:=O (R3.below b);have E:=ac RE b;clear b x W X Vv R3 RE P
 go_upto_region 2 with fail
 have b:=ai u (jf #[.bool q] 4);have d:=Boxed.new u 4 (.bool q);obtain⟨f,x⟩:=J (u.alloc (jf #[.bool q] 4));obtain⟨Q,F⟩:=J u.heap.size;rw[<-x]at b d⊢;rw[<-F]at d⊢;have R:=Z j b;have S:jd (jA f p 3 (T A a)):=Z m b;have U:=O (y.below b);have V:=O (z.below b);have s:=ac E b;have W:=O d;clear b x F d j m y z E;have P:=W.cell;have c1:=S.cell;have c2:=ae (i:=1) (v:=T A ep) R.out (by rw[Vt,c];rfl);have X:jd (∀z:jh,(∃m,z=f.drewN m)->jq jk 62 #[jg pl n cl,.func (.func 97) #[] #[jz (jb ⟨C,0,jc⟩),jz (jb ⟨Q,0,jc⟩),jz (jb ⟨p,0,jc⟩)]] z λe w'=>e=jp (.bool (l.any (kU g a)))/\ji w w w'):=O (by
  rintro z ⟨m,rfl⟩;have b:ji f f (f.drewN m):=(jG _ _).trans ⟨I,I,I,jt _,λ_ _=>rfl⟩;refine(FU (OH g vm vt a q C Q p (f.drewN m) ⟨by rw[az R b,Vt],U.llen⟩ (U.mem.below b) a2 bb (az W b) (az S b) t) l _ _ (V.below b) (jG _ _) (jt _) ba).mono ?_;rintro e w' ⟨rfl,o⟩;exact⟨I,s.trans ((b.trans (o.mono b.size)).mono s.size)⟩)
 by_cases b:0<ep
 case pos=>
  have m:decide (0<ep)=jm:=ah b;have x:(ep==0)=jj:=by simp;omega
  have j:=O b;clear b
  rcases q with _|_
  ·obtain rfl:r=jj:=by
    rw[k];exact sc λh=>by have d:=h.own;rw[<-t,<-c,m]at d;cases d
   go_quiet (fail)
   go_wp2_with fail
   go_ret;exact⟨I,s.trans ⟨I,I,I,jt _,λ_ _=>rfl⟩⟩
  have E:jd (r= !(l.any (kU g a))):=O (by rw[k];exact CW (by rw[<-t,<-c,m]) (λe=>jB (c.trans e) (aA j)))
  go_quiet (fail)
  go_wp2_with fail
  refine(X _ ⟨_,I⟩).mono ?_;rintro e w5 ⟨rfl,y⟩;have F:=O y;clear y
  go_wp2_with fail
  go_ret;exact⟨ku E.symm,F⟩
 have m:decide (0<ep)=jj:=ah b;have D:ep=0:=by have:=a1.out;rw[<-c]at this;omega
 subst D;clear b
 cases q with
 |true=>
  obtain rfl:r=jj:=by
   rw[k];exact sc λh=>by have d:=h.own;rw[<-t,<-c,m]at d;cases d
  go_quiet (fail)
  go_wp2_with fail
  go_ret;exact⟨I,s.trans ⟨I,I,I,jt _,λ_ _=>rfl⟩⟩
 |false=>
 by_cases d:n=0
 case pos=>
  subst d;obtain rfl:r=jj:=by
   rw[k];exact sc λh=>by
    obtain⟨x,r,b,-⟩:=h.first c.symm;have j:=Uv.out;rw[b]at j;simp at j
  go_quiet (fail)
  go_wp2_with fail
  go_ret;exact⟨I,s.trans ⟨I,I,I,jt _,λ_ _=>rfl⟩⟩
 have bf:((n:N)==0)=jj:=by simp;omega
 have bc:0<n:=Y;obtain⟨g0,o0,rfl,aa⟩:=(V.cells).2.2 bc;obtain⟨x,H,K⟩:∃x H,l=x::H:=by
  rcases l with _|⟨x,r⟩
  ·have:=Uv.out;simp at this;omega
  exact⟨x,r,I⟩
 have c3:f.cell? ⟨g0,o0+1,jc⟩=jb (T A x.d):=by
  have h:=aa 0 x (by rw[K];rfl) 1 _ I;rw[Nat.zero_mul,xg]at h;exact h
 obtain⟨z,M⟩:=J x.d;rw[<-M]at c3;have ad:=O K;have al:=O M;clear aa K M d
 by_cases b:z=a
 case neg=>
  have K:(z==a)=jj:=ah b;have M:(z !=a)=jm:=ah b;obtain rfl:r=jj:=by
   rw[k];exact sc λh=>by
    obtain⟨x2,r2,j,h5⟩:=h.first c.symm;rw[ad]at j;injection j with j _
    subst j;exact b (al.trans h5)
  clear b
  go_quiet (fail)
  go_wp2_with fail
  go_ret;exact⟨I,s.trans ⟨I,I,I,jt _,λ_ _=>rfl⟩⟩
 have K:(z==a)=jm:=ah b;have M:(z !=a)=jj:=ah b;have E:jd (r= !(l.any (kU g a))):=O (by rw[k];exact CW (by rw[<-t,<-c,m]) (λe=>⟨x,H,ad,by rw[<-al];exact b⟩));clear b
 go_quiet (fail)
 go_wp2_with fail
 refine(X _ ⟨_,I⟩).mono ?_;rintro e w5 ⟨rfl,y⟩;have F:=O y;clear y
 go_wp2_with fail
 go_ret;exact⟨ku E.symm,F⟩
def na(x:ak):Prop:=(x.k=1/\aW x.p/\aW x.v/\x.c=0)\/(x.k=2/\x.p=0/\x.v=0/\0<=x.c/\x.c<=1048576)\/(x.k=3/\aW x.p/\aW x.v/\0<=x.c/\x.c<=1048576)
noncomputable def im(x:ak):jE:=by classical exact decide (na x)
noncomputable def pi(x:ak):jE:=decide (b7 x.p=0)&&decide (b7 x.v=0)
def oB(x:ak):jE:=decide (0<=x.c)&&decide (x.c<=1048576)
theorem wH:b7 d=0↔aW d:=⟨λh=>by
 by_cases g:aW d
 ·exact g
 rw[fJ g]at h;exact jB h G,eG⟩
theorem C5:pi x=jm↔aW x.p/\aW x.v:=by unfold pi;simp[wH]
theorem Dy:oB x=jm↔0<=x.c/\x.c<=1048576:=by unfold oB;simp
theorem mC:im x=jm↔na x:=by unfold im;simp
theorem FX(h:x.k=1):im x=(pi x&&(x.c==0)):=by
 rw[qi,ri,C5,beq_iff_eq,mC];unfold na;simp[h,and_assoc]
theorem Gy(h:x.k=2):im x=((x.p==0)&&(x.v==0)&&oB x):=by
 rw[qi,ri,ri,Dy,beq_iff_eq,beq_iff_eq,mC];unfold na;simp[h,and_assoc]
theorem AW(h:x.k=3):im x=(pi x&&oB x):=by
 rw[qi,ri,C5,Dy,mC];unfold na;simp[h,and_assoc]
theorem J7(a:x.k≠1)(b:x.k≠2)(c:x.k≠3):im x=jj:=by
 have h:¬na x:=by unfold na;simp[a,b,c]
 cases hb:im x with
 |false=>rfl
 |true=>exact jB (mC.1 hb) h
noncomputable def gQ(l:je ak):jE:=by classical exact decide (dz l)
theorem nB:gQ c=jm↔dz c:=by unfold gQ;simp
theorem C0(h:¬dz c):gQ c=jj:=by unfold gQ;simpa using h
structure gJ(l:je ak):Prop where
 each:∀x∈l,lH x
 once:(l.map ak.d).Nodup
theorem gJ.nil:gJ []:=⟨(λx h=>by cases h),by simp⟩
theorem gJ.snoc(h:gJ c)(f:dH x.d)(g:im x=jm)(i:x.d∉c.map ak.d):gJ (c++[x]):=by
 refine⟨λy l=>?_,?_⟩
 ·rcases nn.1 l with l|l
  ·exact h.each y l
  rw[p6]at l;subst l;refine⟨f,?_⟩;exact mC.1 g
 rw[lr,xX];refine⟨h.once,by simp,λa j b d=>?_⟩;simp at d;subst d;exact λe=>i (e▸j)
theorem vv(a:c[b]?=jb x)(h:¬dH x.d\/im x=jj\/x.d∈(c.take b).map ak.d):gQ c=jj:=by
 refine C0 λk=>?_
 have l:=k.each x (jX a)
 rcases h with h|h|h
 ·exact h l.1
 ·rw[mC.2 l.2]at h;cases h
 have f:c=c.take b++c.drop b:=(qT b c).symm;have g:x∈c.drop b:=by
  obtain⟨hk,e⟩:=oo.1 a;rw[xF hk,e];exact qx ..
 have d:=k.once;rw[f,lr,xX]at d;exact d.2.2 _ h _ (jN.2 ⟨x,g,I⟩) I
theorem Mw(h:gJ c):gQ c=decide (c.length<=64):=by
 rw[qi,nB,decide_eq_true_iff];exact⟨λh=>h.len,λa=>⟨h.each,h.once,a⟩⟩
theorem NY(a:je N)(y:N):(dN a y).getD jj=decide (y∈a):=by
 unfold dN
 split<;>simp_all
theorem yM(l:je ak)(v:jl)(w:jh)(h:EC.At w v l)(hl:l.length<=1000000):
 jq jk 33 #[v] w λe w'=>e=jp (.bool (gQ l))/\ji w w w':=by
 obtain⟨V,a⟩:=J (gQ l);rw[<-a];have W:=O a;obtain⟨p,c,rfl,hc,-⟩:=h.form;have HU:=O h;obtain⟨n,b⟩:=J l.length;have HN:=O b;rw[<-b]at hl hc HU⊢;have d:=aS.made (gA qB) 3 w;have f:=ai w (.map #[] 0);have aa:=O d;have RG:=O f;have g:=@run_makeMap jk;clear h b a d f
 go_enter func33,ntmps33
 go_wp2_with fail
 clear g;obtain⟨M,a⟩:=J w.heap.size;have UR:=O a;rw[<-a]at aa⊢;obtain⟨W0,b⟩:=J (w.alloc (.map #[] 0));rw[<-b]at aa RG⊢;clear a b
 go_loopw [12] (λi wr=>∃k:ja,i=T A k/\k<=n/\jd (aS (gA qB) 3 wr M k (dN ((l.take k).map ak.d)))/\jd (gJ (l.take k))/\jd (ji w w wr)) (λi _=>n-(js i).toNat)
 case atStart=>exact⟨0,I,jS _,O (aa.congr (λx _=>by simp[dN])),O (ah gJ.nil),RG⟩
 obtain⟨k,rfl,hk,z,HP,a⟩:=hrel
 by_cases a1:k<n
 case neg=>
  have y:=ap ((k:N)<(n:N));have a2:=ap (k<n);obtain rfl:k=n:=Y;have b:jd (V=decide (k<=64)):=O (by
   have h:=HP.out;rw[jV (by rw[<-HN];exact jt _)]at h;rw[W,Mw h,<-HN])
  go_wp2_with fail
  go_ret;exact⟨ku (by rw[b,qi,decide_eq_true_iff,decide_eq_true_iff];omega),a⟩
 have y:=ao ((k:N)<(n:N));have a2:=ao (k<n);obtain⟨e,he,K⟩:=dF (l:=l) (j:=k) (by rw[<-HN];exact a1);obtain⟨g,o,rfl,b⟩:=(HU.cells).2.2 Y;have HE:=O he;have Uj:=O K;have Q:=O (FX (x:=e));have R:=O (Gy (x:=e));have D:=O (AW (x:=e));have X:=O (J7 (x:=e));obtain⟨kb,B⟩:=J (pi e);obtain⟨F,C⟩:=J (oB e);obtain⟨s,H⟩:=J (im e);have YU:=O B;have S9:=O C;have al:=O H;rw[<-B]at Q D;rw[<-C]at R D;rw[<-H]at X Q R D;obtain⟨d,f,ep,u,r⟩:=e;have c0:wr.cell? ⟨g,o+k*5,jc⟩=jb (T A d):=aB (b k _ he 0 _ I) a;have c1:wr.cell? ⟨g,o+k*5+1,jc⟩=jb (T A f):=aB (b k _ he 1 _ I) a;have S:wr.cell? ⟨g,o+k*5+2,jc⟩=jb (T A ep):=aB (b k _ he 2 _ I) a;have c3:wr.cell? ⟨g,o+k*5+3,jc⟩=jb (T A u):=aB (b k _ he 3 _ I) a;have c4:wr.cell? ⟨g,o+k*5+4,jc⟩=jb (T A r):=aB (b k _ he 4 _ I) a;have U:=ai wr (jf #[T A d,T A f,T A ep,T A u,T A r] 47);have hX:=jw wr (jf #[T A d,T A f,T A ep,T A u,T A r] 47);have m:=O U;have q:=O hX;dsimp only at X Q R D;clear b he K B C H U hX
 go_upto_region 5 with fail
 obtain⟨B,b⟩:=J wr.heap.size;rw[<-b]at q⊢;obtain⟨W1,C⟩:=J (wr.alloc (jf #[T A d,T A f,T A ep,T A u,T A r] 47));rw[<-C]at m q⊢;have K:=O (z.below m z.lt);have RD:=O (a.trans (m.mono a.size));have TJ:=O b;clear b C c0 c1 S c3 c4 z a m
 go_cut [6] (λv b=>v=.bool kb/\jd (ji W1 W1 b))
 case first=>
  have b2:=ae (i:=2) q I;have b3:=ae (i:=3) q I;have U:=O (fO ep);have Sl:=O (fO u);have C:jd (kb=(decide (b7 ep=0)&&decide (b7 u=0))):=O YU;obtain⟨S,a⟩:=J (b7 ep);obtain⟨c3,m⟩:=J (b7 u);rw[<-a]at U C;rw[<-m]at Sl C;clear a m
  go_wp2_with fail
  refine(U _).mono ?_;rintro e w2 ⟨rfl,a⟩;replace b3:=aB b3 a;have z:=O a;clear a b2
  by_cases m:S=0
  ·subst m
   go_wp2_with fail
   refine(Sl _).mono ?_;rintro e w3 ⟨rfl,a⟩;have H:=ac z a;clear a
   go_wp2_with fail
   go_meet
   exact⟨by rw[C,<-wT];rfl,H⟩
  have au:(S==0)=jj:=ah m;have ad:decide (S=0)=jj:=ah m;obtain rfl:kb=jj:=by rw[C,ad];rfl
  clear m
  go_wp2_with fail
  go_meet
  exact⟨I,z⟩
 obtain⟨rfl,z⟩:=hcut;have U:=O (az q z);have Ta:=O (K.below z K.lt);have H:=O (RD.trans (z.mono RD.size));clear q K RD z;have b4:=ae (i:=4) U I
 go_upto_region 6 with fail
 go_cut [7] (λv b=>v=.bool F/\wc=b)
 case first=>
  have a:jd (F=(decide (0<=r)&&decide (r<=1048576))):=O S9
  by_cases q:0<=r
  ·have y:decide (0<=r)=jm:=ah q
   have C:jd (F=decide (r<=1048576)):=O (by rw[a,y];rfl)
   go_wp2_with fail
   go_meet
   exact⟨jv qg C.symm,I⟩
  have y:decide (0<=r)=jj:=ah q;obtain rfl:F=jj:=by rw[a,y];rfl
  clear q
  go_wp2_with fail
  go_meet
  exact⟨I,I⟩
 obtain⟨rfl,rfl⟩:=hcut;have b0:=ae (i:=0) U I;have b2:=ae (i:=2) U I;have b3:=ae (i:=3) U I
 go_upto_block 2 with fail
 go_cut [8] (λv b=>v=.bool s/\wc=b)
 case first=>
  by_cases q:d=1
  ·have y:(d==1)=jm:=ah q
   have a:=Q q;clear q
   rcases kb with _|_
   ·obtain rfl:s=jj:=by rw[a];rfl
    clear a
    go_wp2_with fail
    go_meet
    exact⟨I,I⟩
   have C:jd (s=(r==0)):=O (by rw[a];rfl);clear a
   go_wp2_with fail
   go_meet
   exact⟨jv qg C.symm,I⟩
  have y:(d==1)=jj:=ah q
  by_cases m:d=2
  ·have au:(d==2)=jm:=ah m
   have a:=R m;clear q m
   by_cases b:ep=0
   ·have ad:(ep==0)=jm:=ah b
    by_cases K:u=0
    ·have a3:(u==0)=jm:=ah K
     have C:jd (s=F):=O (by rw[a,b,K];simp);clear a b K
     go_wp2_with fail
     go_meet
     exact⟨jv qg C.symm,I⟩
    have a3:(u==0)=jj:=ah K;obtain rfl:s=jj:=by rw[a];simp[K]
    clear a b K
    go_wp2_with fail
    go_meet
    exact⟨I,I⟩
   have ad:(ep==0)=jj:=ah b;obtain rfl:s=jj:=by rw[a];simp[b]
   clear a b
   go_wp2_with fail
   go_meet
   exact⟨I,I⟩
  have au:(d==2)=jj:=ah m
  by_cases b:d=3
  ·have ad:(d==3)=jm:=ah b
   have a:=D b;clear q m b
   rcases kb with _|_
   ·obtain rfl:s=jj:=by rw[a];rfl
    clear a
    go_wp2_with fail
    go_meet
    exact⟨I,I⟩
   have C:jd (s=F):=O (by rw[a];rfl);clear a
   go_wp2_with fail
   go_meet
   exact⟨jv qg C.symm,I⟩
  have ad:(d==3)=jj:=ah b;obtain rfl:s=jj:=X q m b;clear q m b
  go_wp2_with fail
  go_meet
  exact⟨I,I⟩
 obtain⟨rfl,rfl⟩:=hcut;clear b0 b2 b3 b4 X Q R D YU S9;have b1:=ae (i:=1) U I
 cases s with
 |false=>
  obtain rfl:V=jj:=by rw[W];exact vv HE (.inr (.inl al.symm))
  go_wp2_with fail
  go_ret;exact⟨I,H⟩
 |true=>
 have a:=O (zx f);obtain⟨Q,b⟩:=J (decide (dH f));rw[<-b]at a;have q:=O b;clear b
 go_wp2_with fail
 refine(a _).mono ?_;rintro e w4 ⟨rfl,rfl⟩;clear a
 cases Q with
 |false=>
  obtain rfl:V=jj:=by rw[W];exact vv HE (.inl (by have h:=q.symm;simpa using h))
  go_wp2_with fail
  go_ret;exact⟨I,H⟩
 |true=>
 have a:dH f:=oj q.symm;have b:aH f:=aH.of (by unfold dH at a;omega);have R:=O a;have C:=Ta.look (P:=jk) mF (t:=153) underlying153 (zy _) b jj;obtain⟨D,m⟩:=J (decide (f∈(l.take k).map ak.d));have ad:(Instr.lookup 153 (.map (jb M)) (T A f) jj).run jk wc=.ok (.bool D) wc:=by
  rw[C,m,<-NY];rfl
 have K:=O m;have X:=O b;clear a b C m
 cases D with
 |true=>
  obtain rfl:V=jj:=by rw[W];exact vv HE (.inr (.inr (oj K.symm)))
  go_wp2_with fail
  go_ret;exact⟨I,H⟩
 |false=>
 have C:jd (gJ (l.take (k+1))):=O (by
  rw[Uj];exact HP.snoc R al.symm (of_decide_eq_false K.symm))
 have HS:jd ((l.take (k+1)).map ak.d=(l.take k).map ak.d++[f]):=O (by rw[Uj,lr];rfl);have au:k<1000001:=Y;have Yu:jd (M<wc.heap.size):=O Ta.lt;have a:jd (w.heap.size<=M):=O (by rw[UR];exact jt _)
 go_wp2_with (at_mapUpdate;refine nA (E:=gA qB) I _ _ _ 153 I mF underlying153 M _ _ I Ta (by unfold j8;omega) f I X jm I trivial ?_;intro w3 b m;have Tq:=O b;have Wz:=O m;clear b m)
 exact⟨⟨k+1,by go_num,by omega,O (by
  have h:=Tq.out;rw[wJ]at h;rw[HS];exact h),C,O (H.grown Wz.grown (eF Yu a) (λj e=>by cases e;exact a))⟩,by simp only[js];omega⟩
theorem iW(h:bp w a t):∃p n c,a=jg p n c:=by
 obtain⟨p,c,v,-⟩:=h;exact⟨p,_,c,v⟩
theorem yB(h:aW d):aH d:=aH.of (by have:=h.1;have:=h.2.1;omega)
theorem bp.setRow{v:jl}{p:jR lo}{n c:ja}{l:jH}{fr:ja×ja}{cs:jD jl}(h:bp w v t)(m:w.heap[b]?=jb (jf #[jg p n c] l fr)):bp (w.setRow b cs) v t:=by
 have f:∀(g o:ja) (x:N),w.cell? ⟨g,o,jc⟩=jb (T A x)->(w.setRow b cs).cell? ⟨g,o,jc⟩=jb (T A x):=λg o x d=>by
  by_cases e:g=b
  ·subst e
   exfalso
   unfold nz at d;rw[m]at d
   rcases o with _ |o<;>simp at d
  rw[<-d];exact bX (a:=⟨g,o,jc⟩) (jY _ _ _ _ e)
 obtain⟨p,c,q,r,s,u,y⟩:=h;refine⟨p,c,q,r,s,λz=>?_,y⟩;obtain⟨g,o,e,i⟩:=u z;exact⟨g,o,e,λj k=>⟨f _ _ _ (i j k).1,f _ _ _ (i j k).2⟩⟩
theorem oW:(jk.info? 27).map (·.size)=jb 1:=by kernel_rfl
theorem vF(g:aI)(vm vt vl:jl)(l:je ak)(w:jh)(h:cr w g vm vt)(u:dz l)(z:g.tree.length<=700000)(v:EC.At w vl l):
 jq jk 36 #[jn (aG g vm vt).toArray,vl] w λe w'=>∃M,e=jp (jn #[M])/\bp w' M (aV g.tree l)/\ji w w w':=by
 obtain⟨f,q,b,rfl⟩:=iW h.tree;obtain⟨r,x⟩:=J ((aG g vm (jg f q b)).toArray);have B:r[35]?=jb (jg f q b):=by rw[x];simpa using(mi (vm:=vm) (vt:=jg f q b) h.llen).2.2.2
 rw[<-x];have al:=O B;obtain⟨x0,c⟩:=J ((((w.alloc (jf r 29)).alloc (jf #[jg jc 0 0] 27)).alloc (jf #[jg f q b] 27)));obtain⟨d,k⟩:=J w.heap.size;have a:=jw w (jf r 29);have m:=ai w (jf r 29);have i:=jw (w.alloc (jf r 29)) (jf #[jg jc 0 0] 27);have o:=ai (w.alloc (jf r 29)) (jf #[jg jc 0 0] 27);have p:=jw ((w.alloc (jf r 29)).alloc (jf #[jg jc 0 0] 27)) (jf #[jg f q b] 27);have s:=ai ((w.alloc (jf r 29)).alloc (jf #[jg jc 0 0] 27)) (jf #[jg f q b] 27);replace a:=az a o;replace a:=az a s;rw[jK]at i;replace i:=az i s;rw[jK,jK]at p;have t:=((m).trans (o.mono (m).size)).trans (s.mono ((m).trans (o.mono (m).size)).size);rw[<-c]at t;rw[<-c,<-k]at a;rw[<-c,<-k]at i;rw[<-c,<-k]at p;have ba:=O a;have R8:=O i;have au:=O p;have RG:=O t;have HW:=O c;have P:=O k;obtain⟨pl,cl,rfl,SQ,-⟩:=v.form;obtain⟨n,y⟩:=J l.length;have C:=u.len;have bb:n<=64:=Y;have WX:jd (bp x0 (jg f q b) g.tree):=O (h.tree.below t);have R2:jd (EC.At w (jg pl l.length cl) l):=O v;rw[<-y]at R2 SQ⊢;have Uv:=O y;have HF:=O u;have Vq:=O z;clear t c k a m i o p s x y C u z v h B
 go_enter func36,ntmps36
 have a:((w.alloc (jf r 29)).alloc (jf #[jg jc 0 0] 27)).cell? ⟨w,35,jc⟩=jb (jg f q b):=ae (az (jw w _) (ai _ _)) al
 go_upto_region 2 with fail
 clear a;rw[<-HW,<-P]
 go_wp2_with fail
 go_loopw [12] (λi wr=>∃(k:ja) (p:jR lo) (m c:ja),i=T A k/\k<=n/\jd (wr.heap[d+1+1]?=jb (jf #[jg p m c] 27 (0,0)))/\jd (wr.heap[d+1]?=jb (jf #[jg jc 0 0] 27 (0,0)))/\jd (bp wr (jg p m c) (aV g.tree (l.take k)))/\jd (ji w w wr)) (λi _=>n-(js i).toNat)
 case atStart=>exact⟨0,f,q,b,I,jS _,au,R8,WX,RG⟩
 obtain⟨k,p,m,c,rfl,hk,C,v,x,s⟩:=hrel
 by_cases a1:k<n
 case neg=>
  have a2:=ap ((k:N)<(n:N));have a3:=ap (k<n);obtain rfl:k=n:=Y;have b:=ae (i:=0) C I;have a:jd (bp wr (jg p m c) (aV g.tree l)):=O (by have h:=x.out;rw[jV (by rw[<-Uv];exact jt _)]at h;exact h);have t:d+1≠d+1+1:=Y
  go_wp2_with (refine j1 I λ_ y=>mb 27 _ _ I (d+1) #[jg p m c] I I 27 _ v.out oW aj (by simp[kw]) (y _ _ ?_))
  have o:(wr.setRow (d+1) #[jg p m c]).heap[d+1]?=jb (jf #[jg p m c] 27 (0,0)):=jZ _ _ _ _ _ _ v.out;refine ms (rn I _ _ (d+1) 27 _ (0,0) _ I o underlying27 I oW) I ?_;exact⟨_,I,a.setRow v,j7 s.out (by rw[P];omega) _⟩
 have a2:=ao ((k:N)<(n:N));have a3:=ao (k<n);obtain⟨e,he,D⟩:=dF (l:=l) (j:=k) (by rw[<-Uv];exact a1);obtain⟨z,o,rfl,a⟩:=(R2.cells).2.2 Y;have B:=HF.each e (jX he);have HI:jd (aH e.d):=O (aH.of (by have:=B.1;unfold dH at this;omega));have ad:jd (e.k≠2->aH e.p):=O (λt=>by
  rcases B.2 with h|h|h
  ·exact yB h.2.1
  ·exact jB h.1 t
  exact yB h.2.1)
 have SP:jd (aV g.tree (l.take (k+1))=dP (aV g.tree (l.take k)) e):=O (by rw[D,O5]);have WV:jd ((aV g.tree (l.take k)).length<=800000):=O (by have:=uF g.tree (l.take k);have:=Vq.out;have:=List.length_take_le k l;omega);generalize aV g.tree (l.take k)=Q at SP WV x;obtain⟨u,t,ep,R,S⟩:=e;have H:wr.cell? ⟨z,o+k*5,jc⟩=jb (T A u):=aB (a k _ he 0 _ I) s;have K:wr.cell? ⟨z,o+k*5+1,jc⟩=jb (T A t):=aB (a k _ he 1 _ I) s;have c2:wr.cell? ⟨z,o+k*5+2,jc⟩=jb (T A ep):=aB (a k _ he 2 _ I) s;have c3:wr.cell? ⟨z,o+k*5+3,jc⟩=jb (T A R):=aB (a k _ he 3 _ I) s;have c4:wr.cell? ⟨z,o+k*5+4,jc⟩=jb (T A S):=aB (a k _ he 4 _ I) s;dsimp only at HI ad;clear a he D B
 go_upto_region 5 with fail
 obtain⟨U,a⟩:=J wr;rw[<-a]at C v x s H K c2 c3 c4⊢;clear a;have a:=ai U (jf #[T A u,T A t,T A ep,T A R,T A S] 47);have D:=jw U (jf #[T A u,T A t,T A ep,T A R,T A S] 47);obtain⟨y2,hx⟩:=J (U.alloc (jf #[T A u,T A t,T A ep,T A R,T A S] 47));rw[<-hx]at a D⊢;obtain⟨E,F⟩:=J U.heap.size;rw[<-F]at D⊢;have bc:=O F;have B:=Z C a;have V:=Z v a;have W:=O (x.below a);have X:=ac s a;clear C v x s;have x:=O D;clear D hx a F;have b0:=ae (i:=0) x I;have b1:=ae (i:=1) x I;have b2:=ae (i:=2) x I;have t0:=ae (i:=0) B I;clear H K c2 c3 c4
 by_cases s:u=2
 ·have a4:(u==2)=jm:=ah s
  have aa:jd (aV g.tree (l.take (k+1))=l8 Q t):=O (by rw[SP];exact ju s);clear s
  go_wp2_with fail
  refine(Nz Q (jg p m c) t y2 W WV HI).mono ?_;rintro e y3 ⟨M,rfl,C,a⟩;have D:=O C;clear C b0 b1 b2 t0;have v:=Z B a;have Ss:=Z V a;have RI:=ac X a;clear B V W X x;clear a;obtain⟨F,H,K,rfl⟩:=iW D
  go_wp2_with (refine j1 I λ_ y=>mb 27 _ _ I (d+1+1) #[jg F H K] I I 27 _ v.out oW aj (by simp[kw]) (y _ _ ?_))
  exact⟨⟨k+1,F,H,K,by go_num,by omega,O (jZ _ _ _ _ _ _ v.out),O ((jY _ _ _ _ Y).trans Ss),O (by rw[aa];exact D.setRow v),O (j7 RI.out (by rw[P];omega) _)⟩,by simp only[js];omega⟩
 have a4:(u==2)=jj:=ah s;have aa:jd (aV g.tree (l.take (k+1))=ia Q t ep):=O (by rw[SP];exact jy s);have a5:=O (ad s);clear s
 go_wp2_with fail
 refine(Qu Q (jg p m c) t ep y2 W WV HI a5).mono ?_;rintro e y3 ⟨M,rfl,C,a⟩;have D:=O C;clear C b0 b1 b2 t0;have v:=Z B a;have Ss:=Z V a;have RI:=ac X a;clear B V W X x;clear a;obtain⟨F,H,K,rfl⟩:=iW D
 go_wp2_with (refine j1 I λ_ y=>mb 27 _ _ I (d+1+1) #[jg F H K] I I 27 _ v.out oW aj (by simp[kw]) (y _ _ ?_))
 exact⟨⟨k+1,F,H,K,by go_num,by omega,O (jZ _ _ _ _ _ _ v.out),O ((jY _ _ _ _ Y).trans Ss),O (by rw[aa];exact D.setRow v),O (j7 RI.out (by rw[P];omega) _)⟩,by simp only[js];omega⟩
section
open Go.Shelf
def Tryzx.laysM_ren:Go.Shelf.Ren:=⟨fun|6=>66|15=>40|14=>138|28=>103|29=>104|20=>185|21=>186|22=>187|23=>188|24=>189|25=>190|26=>191|27=>192|46=>234|47=>235|48=>236|49=>237|50=>238|57=>262|n=>n,fun|22=>24|24=>43|25=>125|3=>3|39=>92|0=>0|53=>161|55=>163|4=>4|46=>263|45=>262|50=>96|5=>5|9=>9|66=>303|70=>306|76=>330|77=>331|n=>n,fun|n=>n⟩
theorem Tryzx.laysM:Go.Proofs.SlLaysF0.n6 jk Tryzx.laysM_ren:={
 mixed:=by kernel_rfl
 f6:=⟨Tryz.f66.name,by decide,func66.trans (jv jb ag)⟩
 f14:=⟨Tryz.f138.name,by decide,func138.trans (jv jb ag)⟩
 f15:=func40.trans (jv jb ag)
 f20:=⟨Tryz.f185.name,by decide,func185.trans (jv jb ag)⟩
 f21:=⟨Tryz.f186.name,by decide,func186.trans (jv jb ag)⟩
 f22:=⟨Tryz.f187.name,by decide,func187.trans (jv jb ag)⟩
 f23:=⟨Tryz.f188.name,by decide,func188.trans (jv jb ag)⟩
 f24:=⟨Tryz.f189.name,by decide,func189.trans (jv jb ag)⟩
 f25:=⟨Tryz.f190.name,by decide,func190.trans (jv jb ag)⟩
 f26:=⟨Tryz.f191.name,by decide,func191.trans (jv jb ag)⟩
 f27:=⟨Tryz.f192.name,by decide,func192.trans (jv jb ag)⟩
 f28:=func103.trans (jv jb ag)
 f29:=func104.trans (jv jb ag)
 f46:=⟨Tryz.f234.name,by decide,func234.trans (jv jb ag)⟩
 f47:=func235.trans (jv jb ag)
 f48:=func236.trans (jv jb ag)
 f49:=⟨Tryz.f237.name,by decide,func237.trans (jv jb ag)⟩
 f50:=⟨Tryz.f238.name,by decide,func238.trans (jv jb ag)⟩
 f57:=⟨Tryz.f262.name,by decide,func262.trans (jv jb ag)⟩
 t0:=underlying0
 a0:=isAgg0
 z0:=sizeOf0
 v0:=zeroValue0
 t3:=mF
 a3:=isAgg3
 z3:=sizeOf3
 v3:=zeroValue3
 t4:=qB
 a4:=isAgg4
 z4:=sizeOf4
 v4:=zeroValue4
 t5:=xz
 a5:=isAgg5
 z5:=sizeOf5
 v5:=zeroValue5
 t9:=underlying9
 a9:=isAgg9
 z9:=sizeOf9
 v9:=zeroValue9
 t22:=qk
 a22:=isAgg24
 z22:=sizeOf24
 v22:=zeroValue24
 t25:=underlying125
 a25:=isAgg125
 z25:=sizeOf125
 v25:=zeroValue125
 t39:=underlying92
 a39:=isAgg92
 z39:=sizeOf92
 v39:=zeroValue92
 t45:=underlying262
 a45:=isAgg262
 z45:=sizeOf262
 v45:=zeroValue262
 t46:=underlying263
 a46:=isAgg263
 z46:=sizeOf263
 v46:=zeroValue263
 t50:=underlying96
 a50:=isAgg96
 z50:=sizeOf96
 v50:=zeroValue96
 t53:=underlying161
 a53:=isAgg161
 z53:=sizeOf161
 v53:=zeroValue161
 t55:=underlying163
 a55:=isAgg163
 z55:=sizeOf163
 v55:=zeroValue163
 t66:=underlying303
 a66:=isAgg303
 z66:=sizeOf303
 v66:=zeroValue303
 t70:=underlying306
 a70:=isAgg306
 z70:=sizeOf306
 v70:=zeroValue306
 t76:=underlying330
 a76:=isAgg330
 z76:=sizeOf330
 v76:=zeroValue330
 t77:=underlying331
 a77:=isAgg331
 z77:=sizeOf331
 v77:=zeroValue331}
theorem Tryzx.sortFunc_noneM(p:jR lo)(a:ja)(b:jl)(w:jh):
 jq jk 66 #[jg p 0 a,b] w λe w'=>e=jp (jC #[])/\w'=w:=AnyF.slices_SortFunc_none Tryzx.laysM p a b w
def Tryzx.laysC_ren:Go.Shelf.Ren:=⟨fun|6=>121|15=>40|14=>176|28=>103|29=>104|20=>222|21=>223|22=>224|23=>225|24=>226|25=>227|26=>228|27=>229|46=>258|47=>235|48=>236|49=>259|50=>260|57=>267|n=>n,fun|22=>30|24=>47|25=>192|3=>3|39=>92|0=>0|53=>161|55=>163|4=>4|46=>263|45=>262|50=>96|5=>5|9=>9|66=>303|70=>306|76=>330|77=>331|n=>n,fun|n=>n⟩
theorem Tryzx.laysC:Go.Proofs.SlLaysF0.n6 jk Tryzx.laysC_ren:={
 mixed:=by kernel_rfl
 f6:=⟨Tryz.f121.name,by decide,func121.trans (jv jb ag)⟩
 f14:=⟨Tryz.f176.name,by decide,func176.trans (jv jb ag)⟩
 f15:=func40.trans (jv jb ag)
 f20:=⟨Tryz.f222.name,by decide,func222.trans (jv jb ag)⟩
 f21:=⟨Tryz.f223.name,by decide,func223.trans (jv jb ag)⟩
 f22:=⟨Tryz.f224.name,by decide,func224.trans (jv jb ag)⟩
 f23:=⟨Tryz.f225.name,by decide,func225.trans (jv jb ag)⟩
 f24:=⟨Tryz.f226.name,by decide,func226.trans (jv jb ag)⟩
 f25:=⟨Tryz.f227.name,by decide,func227.trans (jv jb ag)⟩
 f26:=⟨Tryz.f228.name,by decide,func228.trans (jv jb ag)⟩
 f27:=⟨Tryz.f229.name,by decide,func229.trans (jv jb ag)⟩
 f28:=func103.trans (jv jb ag)
 f29:=func104.trans (jv jb ag)
 f46:=⟨Tryz.f258.name,by decide,func258.trans (jv jb ag)⟩
 f47:=func235.trans (jv jb ag)
 f48:=func236.trans (jv jb ag)
 f49:=⟨Tryz.f259.name,by decide,func259.trans (jv jb ag)⟩
 f50:=⟨Tryz.f260.name,by decide,func260.trans (jv jb ag)⟩
 f57:=⟨Tryz.f267.name,by decide,func267.trans (jv jb ag)⟩
 t0:=underlying0
 a0:=isAgg0
 z0:=sizeOf0
 v0:=zeroValue0
 t3:=mF
 a3:=isAgg3
 z3:=sizeOf3
 v3:=zeroValue3
 t4:=qB
 a4:=isAgg4
 z4:=sizeOf4
 v4:=zeroValue4
 t5:=xz
 a5:=isAgg5
 z5:=sizeOf5
 v5:=zeroValue5
 t9:=underlying9
 a9:=isAgg9
 z9:=sizeOf9
 v9:=zeroValue9
 t22:=ql
 a22:=isAgg30
 z22:=sizeOf30
 v22:=zeroValue30
 t25:=underlying192
 a25:=isAgg192
 z25:=sizeOf192
 v25:=zeroValue192
 t39:=underlying92
 a39:=isAgg92
 z39:=sizeOf92
 v39:=zeroValue92
 t45:=underlying262
 a45:=isAgg262
 z45:=sizeOf262
 v45:=zeroValue262
 t46:=underlying263
 a46:=isAgg263
 z46:=sizeOf263
 v46:=zeroValue263
 t50:=underlying96
 a50:=isAgg96
 z50:=sizeOf96
 v50:=zeroValue96
 t53:=underlying161
 a53:=isAgg161
 z53:=sizeOf161
 v53:=zeroValue161
 t55:=underlying163
 a55:=isAgg163
 z55:=sizeOf163
 v55:=zeroValue163
 t66:=underlying303
 a66:=isAgg303
 z66:=sizeOf303
 v66:=zeroValue303
 t70:=underlying306
 a70:=isAgg306
 z70:=sizeOf306
 v70:=zeroValue306
 t76:=underlying330
 a76:=isAgg330
 z76:=sizeOf330
 v76:=zeroValue330
 t77:=underlying331
 a77:=isAgg331
 z77:=sizeOf331
 v77:=zeroValue331}
theorem Tryzx.sortFunc_noneC(p:jR lo)(a:ja)(b:jl)(w:jh):
 jq jk 121 #[jg p 0 a,b] w λe w'=>e=jp (jC #[])/\w'=w:=AnyF.slices_SortFunc_none Tryzx.laysC p a b w
end
section
open Go.RowKit Go.Maps Go.Sort Go.Shelf
section
variable {α:Type} {E:EK α}
theorem J9{l:je α}[Inhabited {x//x∈l}](t:ja)(d:t<l.length*E.k):(E.flat l)[t]?=jb ((E.cells (l.attach.toArray[t/E.k]!).1)[t%E.k]!):=by
 have b:t/E.k<l.length:=xY (by rw[qw];exact d);have a:t%E.k<E.k:=qu _ E.pos;have h:=E.flat_get l (t/E.k) (t%E.k) l[t/E.k] (lm b) a;rw[show t/E.k*E.k+t%E.k=t by rw[qw];exact xZ t E.k]at h;have e:(l.attach.toArray[t/E.k]!).1=l[t/E.k]:=by rw[getElem!_pos l.attach.toArray _ (ah b)];simp
 rw[h,e];have c:=E.len l[t/E.k];rw[lm (by rw[c];exact a),getElem!_pos _ _ (by rw[c];exact a)]
theorem cY.holds{j:ja}{w W:jh}{g n c:ja}{l:je α}[Inhabited {x//x∈l}](h:cY E j w W g n c l):HoldsK (λx:{x//x∈l}=>E.cells x.1) E.k W g 0 l.attach.toArray:=by
 obtain⟨p,k⟩:=h.own
 rcases k with⟨b,_⟩|⟨q,r,s,b,u,e,v,y,z,m⟩
 ·cases b
 injection b with a B o
 injection a with a
 injection a with a
 subst a;subst o;intro t d;rw[size_flatK]at d;have f:t<l.length*E.k:=ah d;have i:=J9 (E:=E) t f;rw[get_flatK _ _ _ _ d];refine⟨?_,by simp[World.frozen?,e]⟩;rw[jI,nz,e];rw[<-m,yl (by rw[h.len];exact f)]at i
 simpa using i
theorem FO{l:je α}[Inhabited {x//x∈l}]{W:jh}{g n c:ja}{d:je {x//x∈l}}(h:HoldsK (λx:{x//x∈l}=>E.cells x.1) E.k W g 0 d.toArray)(p:n=(d.map Subtype.val).length)(q:n<=c):E.At W (jg (jb ⟨g,0,jc⟩) n c) (d.map Subtype.val):=by
 refine⟨E.flat_length _,jb ⟨g,0,jc⟩,c,by rw[p],by omega,(λe=>by cases e),λ_=>⟨g,0,rfl,λj r k=>?_⟩⟩;have b:=(oo.1 k).1;rw[E.flat_length,jF]at b;have f:=(h j (by rw[size_flatK];simpa using b)).1;rw[get_flatK _ _ _ _ (ah b)]at f;have m:j/E.k<d.length:=xY (by rw[qw];exact b);have i:j%E.k<E.k:=qu _ E.pos;have a:=E.flat_get (d.map Subtype.val) (j/E.k) (j%E.k) (d[j/E.k]).1 (by rw[j5,lm m];rfl) i;rw[show j/E.k*E.k+j%E.k=j by rw[qw];exact xZ j E.k,k]at a;have e:d.toArray[j/E.k]! =d[j/E.k]:=by rw[getElem!_pos d.toArray _ (ah m)];simp
 rw[e]at f;have o:=E.len (d[j/E.k]).1;rw[lm (by rw[o];exact i)]at a;injection a with a
 rw[getElem!_pos _ _ (by rw[o];exact i),<-a]at f;exact f
theorem Fb{β:Type}[Inhabited β]{enc:β->je jl}{k a:ja}{w:jh}{g n:ja}{d:jD β}{os:jD Obj}(b:a<=g)(c:a<=w.heap.size):ji a w (sortWorldK enc k w g 0 n d os):=by
 unfold sortWorldK putRowK putRow mapBlock Go.Sort.ahead Go.Sort.grow;refine⟨I,I,I,by simp,λk hk=>?_⟩;simp only;rw[Array.getElem?_append_left (by simp;omega),Array.getElem?_modify,jy Y]
theorem DR{β:Type}(f:β->N):SWO (ltOf λx y:β=>cT (f x) (f y)) where
 irrefl x:=by simp[ltOf,cT]
 trans x y z h1 h2:=by
  simp only[ltOf,decide_eq_true_eq]at*;unfold cT at*
  by_cases a:f x<f y
  ·by_cases b:f y<f z
   ·rw[ju Y];decide
   rw[jy b]at h2;split at h2<;>omega
  rw[jy a]at h1;split at h1<;>omega
 ntrans x y z h1 h2:=by
  simp only[ltOf,decide_eq_false_iff_not]at*;unfold cT at*
  by_cases a:f x<f z
  ·exfalso
   by_cases b:f x<f y
   ·rw[ju b]at h1;exact h1 G
   by_cases c:f y<f z
   ·rw[ju c]at h2;exact h2 G
   omega
  rw[jy a];split<;>omega
theorem EZ(x y:N):(!(decide (cT y x<0)))=decide (x<=y):=by
 unfold cT
 by_cases h:y<x
 ·rw[ju h];simp;omega
 rw[jy h];split<;>simp<;>omega
theorem Bd{f:α->N}:∀{l:je α},(l.map f).Nodup->∀x∈l,∀y∈l,f x=f y->x=y
 |[],_,x,g,_,_,_=>by cases g
 |a::l,d,x,g,y,h,e=>by
  rw[qo,List.nodup_cons]at d
  rcases jW.1 g with c|c
  ·rcases jW.1 h with b|b
   ·rw[c,b]
   exact jB (jN.2 ⟨y,b,by rw[<-e,c]⟩) d.1
  rcases jW.1 h with b|b
  ·exact jB (jN.2 ⟨x,c,by rw[e,b]⟩) d.1
  exact Bd d.2 x c y b e
theorem FG(w:jh)(a b:Obj):(w.alloc a).alloc b=grow (w.drewN 0) #[a,b]:=by
 show({({w with heap:=w.heap.push a}:jh)with heap:=(w.heap.push a).push b}:jh)={w with heap:=w.heap++ #[a,b]}
 congr 1
theorem z8{l:je α}{f:α->N}(g:(l.map f).Nodup){x y:α}(h:x∈l)(i:y∈l)(c:decide (cT (f x) (f y)<0)=jj)(d:decide (cT (f y) (f x)<0)=jj):x=y:=by
 have e:f x=f y:=by
  simp only[decide_eq_false_iff_not]at c d;unfold cT at c d
  by_cases a:f x<f y
  ·rw[ju a]at c;exact jB G c
  by_cases b:f y<f x
  ·rw[ju b]at d;exact jB G d
  omega
 exact Bd g x h y i e
end
theorem Nv(x y:aK)(w:jh):
 jq jk 67 #[jn (EM.cells x).toArray,jn (EM.cells y).toArray] w λe w'=>e=jp (T A (cT x.dev y.dev))/\∃q os,w'=grow (w.drewN q) os:=by
 obtain⟨a,c,d⟩:=x;obtain⟨b,f,g⟩:=y;show jq jk 67 #[jn #[T A a,T A c,T A d],jn #[T A b,T A f,T A g]] w λe w'=>e=jp (T A (cT a b))/\∃q os,w'=grow (w.drewN q) os
 have h:=O (zw a b);have i:jd (∃q os,(w.alloc (jf #[T A a,T A c,T A d] 43)).alloc (jf #[T A b,T A f,T A g] 43)=grow (w.drewN q) os):=O ⟨0,#[jf #[T A a,T A c,T A d] 43,jf #[T A b,T A f,T A g] 43],FG _ _ _⟩
 go_enter func67,ntmps67
 go_wp2_with fail
 refine(h _).mono ?_;rintro e j ⟨rfl,rfl⟩
 go_wp2_with fail
 go_ret;exact⟨I,i⟩
def io(l:je aK):je aK:=l.mergeSort λx y=>decide (x.dev<=y.dev)
theorem GU(l:je aK)(k:(l.map aK.dev).Nodup)(d g n c:ja)(w W:jh)(h:cY EM d w W g n c l)(p:n<=1000000):
 jq jk 66 #[jg (jb ⟨g,0,jc⟩) n c,.func (.func 67) #[] #[]] W λe w'=>e=jp (jC #[])/\EM.At w' (jg (jb ⟨g,0,jc⟩) n c) (io l)/\ji d W w':=by
 rcases xr n with i|i
 ·subst i
  obtain rfl:l=[]:=q8 h.len.symm;refine(Tryzx.sortFunc_noneM _ c _ W).mono ?_;rintro e w' ⟨rfl,rfl⟩;have e:io []=[]:=by unfold io;simp
  rw[e];exact⟨I,h.at,jG _ _⟩
 have j:l≠[]:=λe=>by have:=h.len;rw[e]at this;simp at this;omega
 haveI:Inhabited {x//x∈l}:=⟨⟨l.head j,List.head_mem j⟩⟩
 have hk:=AnyQ.slices_SortFunc_total (α:={x//x∈l}) Tryzx.laysM 3 isAgg43 sizeOf43 (λx=>EM.cells x.1) (λ_=>rfl) (λx v a=>EM.one x.1 v a) (λx y=>cT x.1.dev y.1.dev) (DR (λx:{x//x∈l}=>x.1.dev)) 67 #[] g 0 c l.attach.toArray W
  (enters_of func67 ag rfl) (λ_ _ _ _ x y=>Nv x.1 y.1 _) (h.holds) h.lt.2 (by rw[j3,qj,<-h.len];omega) (λx y a b=>Subtype.ext (z8 k x.2 y.2 a b))
 rw[j3,qj,<-h.len]at hk;refine hk.mono ?_;rintro e w' ⟨rfl,m,os,rfl⟩;have o:((l.attach.mergeSort λx y=> !ltOf (λx y:{x//x∈l}=>cT x.1.dev y.1.dev) y x).map Subtype.val)=io l:=by
  refine(yn (r:=λx y:{x//x∈l}=> !ltOf (λx y:{x//x∈l}=>cT x.1.dev y.1.dev) y x) (s:=λx y:aK=>decide (x.dev<=y.dev)) (f:=Subtype.val) (λa _ b _=>EZ _ _)).trans ?_;rw[ys]
  rfl
 have a:=holdsK_sortWorldK (λx:{x//x∈l}=>EM.cells x.1) 3 W g 0 m l.attach.toArray (l.attach.mergeSort λx y=> !ltOf (λx y:{x//x∈l}=>cT x.1.dev y.1.dev) y x).toArray os h.lt.2 h.holds (by simp[(qz _ _).length_eq]);refine⟨I,?_,Fb h.lt.1 (bL h.lt)⟩;rw[<-o];exact FO (E:=EM) a (by rw[jF,(qz _ _).length_eq,qj];exact h.len) h.cap
theorem Mv(x y:ak)(w:jh):
 jq jk 122 #[jn (EC.cells x).toArray,jn (EC.cells y).toArray] w λe w'=>e=jp (T A (cT x.d y.d))/\∃q os,w'=grow (w.drewN q) os:=by
 obtain⟨c,a,d,f,g⟩:=x;obtain⟨h,b,i,j,k⟩:=y;show jq jk 122 #[jn #[T A c,T A a,T A d,T A f,T A g],jn #[T A h,T A b,T A i,T A j,T A k]] w λe w'=>e=jp (T A (cT a b))/\∃q os,w'=grow (w.drewN q) os
 have l:=O (zw a b);have m:jd (∃q os,(w.alloc (jf #[T A c,T A a,T A d,T A f,T A g] 47)).alloc (jf #[T A h,T A b,T A i,T A j,T A k] 47)=grow (w.drewN q) os):=O ⟨0,#[jf #[T A c,T A a,T A d,T A f,T A g] 47,jf #[T A h,T A b,T A i,T A j,T A k] 47],FG _ _ _⟩
 go_enter func122,ntmps122
 go_wp2_with fail
 refine(l _).mono ?_;rintro e n ⟨rfl,rfl⟩
 go_wp2_with fail
 go_ret;exact⟨I,m⟩
theorem Qo(l:je ak)(k:(l.map ak.d).Nodup)(d g n c:ja)(w W:jh)(h:cY EC d w W g n c l)(p:n<=1000000):
 jq jk 121 #[jg (jb ⟨g,0,jc⟩) n c,.func (.func 122) #[] #[]] W λe w'=>e=jp (jC #[])/\EC.At w' (jg (jb ⟨g,0,jc⟩) n c) (fx l)/\ji d W w':=by
 rcases xr n with i|i
 ·subst i
  obtain rfl:l=[]:=q8 h.len.symm;refine(Tryzx.sortFunc_noneC _ c _ W).mono ?_;rintro e w' ⟨rfl,rfl⟩;have e:fx []=[]:=by unfold fx;simp
  rw[e];exact⟨I,h.at,jG _ _⟩
 have j:l≠[]:=λe=>by have:=h.len;rw[e]at this;simp at this;omega
 haveI:Inhabited {x//x∈l}:=⟨⟨l.head j,List.head_mem j⟩⟩
 have hk:=AnyQ.slices_SortFunc_total (α:={x//x∈l}) Tryzx.laysC 5 isAgg47 sizeOf47 (λx=>EC.cells x.1) (λ_=>rfl) (λx v a=>EC.one x.1 v a) (λx y=>cT x.1.d y.1.d) (DR (λx:{x//x∈l}=>x.1.d)) 122 #[] g 0 c l.attach.toArray W
  (enters_of func122 ag rfl) (λ_ _ _ _ x y=>Mv x.1 y.1 _) (h.holds) h.lt.2 (by rw[j3,qj,<-h.len];omega) (λx y a b=>Subtype.ext (z8 k x.2 y.2 a b))
 rw[j3,qj,<-h.len]at hk;refine hk.mono ?_;rintro e w' ⟨rfl,m,os,rfl⟩;have o:((l.attach.mergeSort λx y=> !ltOf (λx y:{x//x∈l}=>cT x.1.d y.1.d) y x).map Subtype.val)=fx l:=by
  refine(yn (r:=λx y:{x//x∈l}=> !ltOf (λx y:{x//x∈l}=>cT x.1.d y.1.d) y x) (s:=λx y:ak=>decide (x.d<=y.d)) (f:=Subtype.val) (λa _ b _=>EZ _ _)).trans ?_;rw[ys]
  rfl
 have a:=holdsK_sortWorldK (λx:{x//x∈l}=>EC.cells x.1) 5 W g 0 m l.attach.toArray (l.attach.mergeSort λx y=> !ltOf (λx y:{x//x∈l}=>cT x.1.d y.1.d) y x).toArray os h.lt.2 h.holds (by simp[(qz _ _).length_eq]);refine⟨I,?_,Fb h.lt.1 (bL h.lt)⟩;rw[<-o];exact FO (E:=EC) a (by rw[jF,(qz _ _).length_eq,qj];exact h.len) h.cap
end
theorem uw{E:EK u}{l:je u}(h:w.ownsRow b E.t E.k a l.length (E.flat l))(e:b<=w.heap.size):(a=jg jc 0 0/\l=[])\/∃g c,a=jg (jb ⟨g,0,jc⟩) l.length c/\cY E b w w g l.length c l:=by
 have f:=h
 rcases h.2 with⟨rfl,v⟩|⟨g,i,k,rfl,m,n,o,p,q,r⟩
 ·refine .inl ⟨I,q8 ?_⟩
  first
   |exact v
   |(have d:=h.1;rw[v]at d;exact(xr l.length).elim id λj=>by have:=Nat.mul_pos j E.pos;simp at d;omega)
 exact .inr ⟨g,i,I,f,I,jG _ _,e⟩
theorem H4{p:aK->jE}(f:fW EM b i e j p)(w:jh)(g:j w)(a:e<=w.heap.size):
 jq jk 64 #[jg jc 0 0,.func (.func b) #[] i] w λc w'=>c=jp (jg jc 0 0)/\ji w w w':=by
 have h:=O (yw f [] (jg jc 0 0) w EK.At.nil g a ax);clear f g
 go_enter func64,ntmps64
 go_wp2_with fail
 refine(h).mono ?_;rintro c l ⟨r,rfl,g,f⟩;have d:=O f;clear f h
 rcases g with⟨rfl,-⟩|⟨k,c,-,he,-⟩
 ·go_wp2_with fail
  go_ret;exact⟨I,d⟩
 simp at he
theorem Hb{f:ja}{a:ja}{p:aK->jE}(k:fW EM f i a j p)(l:je aK)(v:jl)(w:jh)(h:w.ownsRow a EM.t EM.k v l.length (EM.flat l))(m:j w)(b:a<=w.heap.size)(o:l.length<=1000000):
 jq jk 64 #[v,.func (.func f) #[] i] w λe w'=>∃n,e=jp n/\w'.ownsRow a EM.t EM.k n (l.filter λx=> !p x).length (EM.flat (l.filter λx=> !p x))/\ji a w w':=by
 rcases uw h b with⟨rfl,rfl⟩|⟨g,c,rfl,q⟩
 ·refine(H4 k w m b).mono ?_
  rintro e w' ⟨rfl,d⟩;exact⟨_,I,kn _ _ _ _,d.mono b⟩
 refine(LR k l g l.length c w q m o).mono ?_;rintro e w' ⟨n',rfl,d⟩;have r:=d.len;subst r;exact⟨_,I,d.own,d.bel⟩
theorem GY(l:je aK)(b:(l.map aK.dev).Nodup)(a:ja)(v:jl)(w:jh)(h:w.ownsRow a EM.t EM.k v l.length (EM.flat l))(d:a<=w.heap.size)(f:l.length<=1000000):
 jq jk 66 #[v,.func (.func 67) #[] #[]] w λe w'=>e=jp (jC #[])/\EM.At w' v (io l)/\ji a w w':=by
 rcases uw h d with⟨rfl,rfl⟩|⟨g,c,rfl,i⟩
 ·refine(Tryzx.sortFunc_noneM jc 0 _ w).mono ?_
  rintro e w' ⟨rfl,rfl⟩;have e:io []=[]:=by unfold io;simp
  rw[e];exact⟨I,EK.At.nil,jG _ _⟩
 exact GU l b a g l.length c w w i f
theorem JS{p:ak->jE}(f:fW EC b i e j p)(w:jh)(g:j w)(a:e<=w.heap.size):
 jq jk 119 #[jg jc 0 0,.func (.func b) #[] i] w λc w'=>c=jp (jg jc 0 0)/\ji w w w':=by
 have h:=O (zl f [] (jg jc 0 0) w EK.At.nil g a ax);clear f g
 go_enter func119,ntmps119
 go_wp2_with fail
 refine(h).mono ?_;rintro c l ⟨r,rfl,g,f⟩;have d:=O f;clear f h
 rcases g with⟨rfl,-⟩|⟨k,c,-,he,-⟩
 ·go_wp2_with fail
  go_ret;exact⟨I,d⟩
 simp at he
theorem PL{p:ak->jE}(k:fW EC b i e j p)(l:je ak)(v:jl)(w:jh)(h:w.ownsRow e EC.t EC.k v l.length (EC.flat l))(m:j w)(f:e<=w.heap.size)(o:l.length<=1000000):
 jq jk 119 #[v,.func (.func b) #[] i] w λa w'=>∃n,a=jp n/\w'.ownsRow e EC.t EC.k n (l.filter λx=> !p x).length (EC.flat (l.filter λx=> !p x))/\ji e w w':=by
 rcases uw h f with⟨rfl,rfl⟩|⟨g,c,rfl,q⟩
 ·refine(JS k w m f).mono ?_
  rintro a w' ⟨rfl,d⟩;exact⟨_,I,kn _ _ _ _,d.mono f⟩
 refine(KE k l g l.length c w q m o).mono ?_;rintro a w' ⟨n',rfl,d⟩;have r:=d.len;subst r;exact⟨_,I,d.own,d.bel⟩
theorem Li(l:je ak)(b:(l.map ak.d).Nodup)(a:ja)(v:jl)(w:jh)(h:w.ownsRow a EC.t EC.k v l.length (EC.flat l))(d:a<=w.heap.size)(f:l.length<=1000000):
 jq jk 121 #[v,.func (.func 122) #[] #[]] w λe w'=>e=jp (jC #[])/\EC.At w' v (fx l)/\ji a w w':=by
 rcases uw h d with⟨rfl,rfl⟩|⟨g,c,rfl,i⟩
 ·refine(Tryzx.sortFunc_noneC jc 0 _ w).mono ?_
  rintro e w' ⟨rfl,rfl⟩;have e:fx []=[]:=by unfold fx;simp
  rw[e];exact⟨I,EK.At.nil,jG _ _⟩
 exact Qo l b a g l.length c w w i f
theorem wW(a:N)(l:je ak)(v:jl)(w:jh)(h:EC.At w v l)(r:(l.map ak.d).Nodup)(k:l.length<=1000000):
 jq jk 49 #[T A a,v] w λe w'=>∃d,e=jp d/\EC.At w' d (dD a l)/\ji w w w':=by
 obtain⟨p,c,rfl,-,-⟩:=h.form;have f:=ai w (jf #[T A a] 3);have g:=Boxed.new w 3 (T A a);obtain⟨n,s⟩:=J l.length;have i:=h.below f;obtain⟨j,m⟩:=J (w.alloc (jf #[T A a] 3));obtain⟨b,o⟩:=J w.heap.size;rw[<-m]at f g i;rw[<-o]at g;rw[<-s]at i⊢;have t:=O (Gb l _ j i k);have y:=O m;have z:=O o;have q:=O g;have u:=O f;have x:=O k;have B:=O r;clear h f g s i m o k r
 go_enter func49,ntmps49
 go_upto_region 1 with fail
 rw[<-y,<-z]
 go_wp2_with fail
 refine(t).mono ?_;rintro e h ⟨d,rfl,i,f⟩;have k:=O i;have m:jd (jA h b 3 (T A a)):=Z q f;have o:=O f;have g:=O f.size;have C:jd (b<j.heap.size):=O q.lt;clear i f t q
 go_wp2_with fail
 refine(PL (Qs a b j.heap.size C) l d h k m g x).mono ?_;rintro e t ⟨D,rfl,i,f⟩;have q:=O i;have r:=O (o.trans f);have s:=O (jP g f.size);clear i f k m o g
 go_wp2_with fail
 refine(Li _ (B.sublist (List.filter_sublist.map _)) j.heap.size D t q s (jP (xh _ _) x)).mono ?_;rintro e m ⟨rfl,f,g⟩;have i:=O f;have k:=O (u.trans ((r.trans g).mono u.size));clear f g q r s
 go_wp2_with fail
 go_ret;exact⟨_,I,i,k⟩
section
attribute [local go_sem] Oper.semAt_some
theorem Dz(t:je (N×N))(x:N):(dM t x).length<=1023:=by
 unfold dM
 split
 ·rename_i h
  have a:1<=x/\x<=1023:=by
   unfold gN at h
   split at h
   ·split at h
    ·cases h
    omega
   exact jB h (by assumption)
  have b:=rt (aN t) (hgt x.toNat) x.toNat;have c:=(nI (n:=x.toNat) Y Y).2;have d:1*2^hgt x.toNat<=x.toNat*2^hgt x.toNat:=pz _ Y;omega
 simp
theorem Ql(t:je (N×N)):∀(l:je N) (x:N) (k:ja),dZ t (l++[x]) k=dZ t l k++(dM t x).map λn=>(((k+l.length:ja):N),n):=by
 intro l
 induction l with
 |nil=>intro x k;simp[dZ]
 |cons y l a=>
  intro x k;have h:=a x (k+1);unfold dZ at h⊢;rw[qd,qK,xt,qK,xt,h,kl];simp only[j9];rw[show k+1+l.length=k+(l.length+1) by omega]
theorem Ap(t:je (N×N)):∀(l:je N) (k:ja),(dZ t l k).length<=1023*l.length:=by
 intro l
 induction l with
 |nil=>intro k;simp[dZ]
 |cons y l a=>
  intro k;have h:=a (k+1);unfold dZ at h⊢;rw[qK,xt,jM,jF,j9];have b:(dM t (y,k).1).length<=1023:=Dz t y;omega
theorem nM(b:0<=d)(c:d<512):(eI d).length=9:=by
 unfold eI gd;rw[jF,jF,pY _ Y]
theorem bp.but{v:jl}{d:ja}{p:jR lo}{n c:ja}{l:jH}{fr:ja×ja}(h:bp w v t)(m:w.heap[d]?=jb (jf #[jg p n c] l fr))(hk:∀k,k<w.heap.size->k≠d->w'.heap[k]?=w.heap[k]?):bp w' v t:=by
 have f:∀(g o:ja) (x:N),w.cell? ⟨g,o,jc⟩=jb (T A x)->w'.cell? ⟨g,o,jc⟩=jb (T A x):=λg o x b=>by
  by_cases e:g=d
  ·subst e
   exfalso
   unfold nz at b;rw[m]at b
   rcases o with _ |o<;>simp at b
  rw[<-b];exact bX (a:=⟨g,o,jc⟩) (hk g (fb b) e)
 obtain⟨p,c,q,r,s,u,y⟩:=h;refine⟨p,c,q,r,s,λz=>?_,y⟩;obtain⟨g,o,e,i⟩:=u z;exact⟨g,o,e,λj k=>⟨f _ _ _ (i j k).1,f _ _ _ (i j k).2⟩⟩
structure kS(w:jh)(a:ja)(Ψ:ja->Prop)(wr:jh):Prop where
 lt:∀k,Ψ k->k<wr.heap.size
 old:∀k,a<=k->k≠a->k<w.heap.size->Ψ k
 kept:∀k,k<w.heap.size->k≠a->wr.heap[k]?=w.heap[k]?
 not:¬Ψ a
 sz:w.heap.size<=wr.heap.size
def nH(Ψ:ja->Prop)(a b:jh)(k:ja):Prop:=Ψ k\/(a.heap.size<=k/\k<b.heap.size)
theorem kS.more{c:jh}(h:kS w b D f)(e:b<w.heap.size)(d:ji f f c):kS w b (nH D f c) c where
 lt k hk:=by rcases hk with hk|hk;exact qy (h.lt k hk) d.size;exact hk.2
 old k h1 h2 h3:=.inl (h.old k h1 h2 h3)
 kept k h1 h2:=(d.block k (qy h1 h.sz)).trans (h.kept k h1 h2)
 not hk:=by rcases hk with hk|hk;exact h.not hk;have:=h.sz;omega
 sz:=jP h.sz d.size
theorem kS.yield{c:jh}(h:kS w b D f)(d:ji b f c)(hk:∀k,D k->c.heap[k]?=f.heap[k]?):kS w b D c where
 lt k h1:=qy (h.lt k h1) d.size
 old:=h.old
 kept k h1 h2:=by
  refine Eq.trans ?_ (h.kept k h1 h2)
  rcases pa k b with e|e
  ·exact d.block k e
  exact hk k (h.old k e h2 h1)
 not:=h.not
 sz:=jP h.sz d.size
theorem Gc{c:u->(ja->Prop)->jh->Prop}(h:b6 b c){s:u}{Ψ:ja->Prop}{a B0:jh}(d:c s Ψ a)(e:ji a a B0):c s (nH Ψ a B0) B0:=
 h s Ψ (nH Ψ a B0) a B0 d (bZ.ofBelow e (λk hk _=>hk)) (λk hk=>.inl hk) (λk hk=>by rcases hk with hk|hk;exact .inl hk;exact .inr hk.1)
theorem ay.more(h:ay D w a b e y)(c:∀k,D k->k<w.heap.size)(d:ji w w f):ay (nH D w f) f a b e y:=
 (h.keep λk hk=>d.block k (c k hk)).mono λk hk=>.inl hk
theorem ay.ofMine{Ψ:ja->Prop}{a b:jh}{v:jl}{sz n:ja}{t:jH}{xs:je jl}(h:b.ownsRow a t sz v n xs):ay (nH Ψ a b) b v sz n xs:=
 ay.of_own h λg c=>.inr (h.lt g c)
theorem MC(t:je (N×N))(ad:jl)(a:N)(j:0<=a)(C:a<512)(w:jh)(f:ja)(p:jR lo)(n c:ja)(ty:jH)(m:w.heap[f]?=jb (jf #[jg p n c] ty (0,0)))(y z:ja)(o:y≠f)(B:z≠f)
 (e:jA w y 3 (T A a)) (q:w.heap[z]?=jb (jf #[ad] 27 (0,0))) (s:bp w ad t) (E:t.length<=1000000):
 eo jk 98 #[jz (jb ⟨y,0,jc⟩),jz (jb ⟨z,0,jc⟩)] (λx:N×N=>#[T A x.1,T A x.2]) (λk=>f<=k/\k≠f/\k<w.heap.size) f (λxs=>xs=dI t a) (λ_=>True) (λb=>b.length<=10000) w:=by
 intro l D Jx W g x F H K;have S:=(jL.1 m).1;have u:kS w f (λk=>f<=k/\k≠f/\k<w.heap.size) W:=⟨λk hk=>qy hk.2.2 g.size,λk a b c=>⟨a,b,c⟩,λk hk _=>g.block k hk,λhk=>hk.2.1 I,g.size⟩;have U:=O u;have al:=O S;have HG:=O m;have HA:=O e;have HT:=O q;have HN:=O s;have HL:=O E;have Uv:=O o;have a4:=O B;have a5:=O e.lt;have Vq:=O (jL.1 q).1;obtain⟨M,P,Q,rfl⟩:=iW s;have HJ:=O x;have au:=O F;have R:=O H;have V:=O K;have v:=nM j C;obtain⟨r,rfl⟩:=m0 j;have h:=O (IW r Y);have X:iv (gd r)=(eI (r:N)).map (jo .i64):=by unfold iv eI;rw[xo];rfl
 rw[X]at h;have aa:dI t (r:N)=dZ t (eI (r:N)) 1:=I;rw[aa];generalize eI (r:N)=d at v h⊢;have U4:=O v;have ca:W.cell? ⟨y,0,jc⟩=jb (T A (r:N)):=by rw[bX (a:=⟨y,0,jc⟩) (u.kept y a5 o)];exact e.cell
 clear m e q s E o B x F H K v u S X aa j C g;refine(rv (n:=0)).1 ?_;refine callsIn_of_wp func98 I trivial ?_ I;simp only[ntmps98,j3,j9,qn,qE,qF,qG,qH,qI,qJ,qc,qd]
 gi_wp2_with fail
 refine⟨trivial,I,(callsIn_wide.2 (h W)).mono ?_⟩;rintro e W1 ⟨v,rfl,j,g⟩;have Tr:=O (U.more al g);have SC:=O (Gc HJ V g);have m:=ay.ofMine (Ψ:=λk=>f<=k/\k≠f/\k<w.heap.size) j;obtain⟨pc,cc,rfl⟩:=m.form;have Su:=O m;have ba:=g.size;generalize nH (λk=>f<=k/\k≠f/\k<w.heap.size) W W1=Ψ1 at Tr SC Su;clear j g m V U h ca
 gi_wp2_with fail
 gi_loopw [19] (λs wr=>W.heap.size<=wr.heap.size/\∃(k:ja) (Ψ:ja->Prop),s=T A k/\k<=9/\jd (kS w f Ψ wr)/\jd (D (dZ t (d.take k) 1) Ψ wr)/\jd (ay Ψ wr (jg pc 9 cc) 1 9 (d.map (jo .i64)))) (λs _=>(9-js s).toNat)
 case atStart=>exact⟨ba,0,Ψ1,I,by omega,Tr,SC,Su⟩
 obtain⟨bg,k,Ψ,rfl,hk,g,E,q⟩:=hrel
 by_cases bb:k<9
 case neg=>
  obtain rfl:k=9:=Y;have S:jd (D (dZ t d 1) Ψ wr):=O (by have h:=E.out;rw[jV (by rw[U4];exact jt _)]at h;exact h);clear R au E
  gi_wp2
  refine bodyPost_end (sg I _ _ _) I ?_;exact⟨⟨_,I⟩,.inl ⟨_,_,I,S⟩⟩
 have hd:=ao ((k:N)<9);have Sm:=ao (k<9);have m:k<d.length:=by rw[U4];exact bb
 have F:=O (Ql t (d.take k) d[k] 1);have Yt:jd (d.take (k+1)=d.take k++[d[k]]):=O (qt m);have a1:jd ((d.take k).length=k):=O (by rw[j6];omega);obtain⟨-,_,_,U,-,-,o⟩:=q.out;injection U with V X VZ
 subst V;subst VZ;obtain⟨gc,oc,rfl,-,o⟩:=o Y;have x:=o k (T A d[k]) (by rw[j5,lm m];rfl);obtain⟨sb,u⟩:=J (d[k]);rw[<-u]at x F Yt;have c1:wr.cell? ⟨z,0,jc⟩=jb (jg M P Q):=by rw[bX (a:=⟨z,0,jc⟩) (g.kept z Vq a4)];exact ae (i:=0) HT I
 have aa:jd (bp wr (jg M P Q) t):=O (HN.but HG g.kept);have a2:=O (Ls t (jg M P Q) sb wr aa HL);clear o u m X
 gi_wp2_with fail
 refine⟨trivial,I,(callsIn_wide.2 a2).mono ?_⟩;rintro e W2 ⟨vn,rfl,j,B⟩;have Ta:=O (g.more al B);have TF:=O (Gc HJ E B);have R7:=O (q.more g.lt B);have SY:=ay.ofMine (Ψ:=Ψ) j;obtain⟨pn,cn,rfl⟩:=SY.form;have H:=O SY;have bh:=B.size;generalize nH Ψ wr W2=Ψ2 at Ta TF R7 H;have K:=O (Dz t sb);obtain⟨u,a3⟩:=J (dM t sb);rw[<-a3]at H F K⊢;obtain⟨m,hm⟩:=J u.length;rw[<-hm]at H K⊢;have UR:=O hm;have T4:=O (Ap t (d.take k) 1);obtain⟨RF,Zx⟩:=J (dZ t (d.take k) 1);rw[<-Zx]at TF F T4;have bc:jd (m<=1023):=K;have Ut:=K.out;clear j B SY a2 aa g E q x c1 hm a3 Zx
 gi_wp2_with fail
 gi_loopw [32] (λs B=>W.heap.size<=B.heap.size/\∃(j:ja) (Ψ:ja->Prop),s=T A j/\j<=m/\jd (kS w f Ψ B)/\jd (D (RF++(u.take j).map λn=>((k:N)+1,n)) Ψ B)/\jd (ay Ψ B (jg (jb ⟨gc,oc,jc⟩) 9 cc) 1 9 (d.map (jo .i64)))/\jd (ay Ψ B (jg pn m cn) 1 m (u.map (jo .i64)))) (λs _=>(m-js s).toNat)
 case atStart=>exact⟨by omega,0,Ψ2,rfl,by omega,Ta,O (OP TF),R7,H⟩
 obtain⟨bk,j,Ψ,rfl,hj,g,s,q,E⟩:=hrel
 by_cases a2:j<m
 case neg=>
  obtain rfl:j=m:=Y;have a3:decide ((j:N)<(j:N))=jj:=by simp
  have S:jd (D (dZ t (d.take (k+1)) 1) Ψ wr):=O (by
   have h:=s.out;rw[jV (by rw[<-UR];exact jt _)]at h;rw[Yt,F,a1,show((1+k:ja):N)=(k:N)+1 by omega];exact h)
  clear R au s
  gi_wp2_with fail
  exact⟨⟨by omega,k+1,Ψ,by go_num,by omega,g,S,q⟩,by simp only[js];omega⟩
 have a3:=ao ((j:N)<(m:N));have bl:=ao (j<m);obtain⟨S,h,B⟩:=dF (l:=u) (j:=j) (by rw[<-UR];exact a2);have bd:jd ((u.take (j+1)).map (λn=>((k:N)+1,n))=(u.take j).map (λn=>((k:N)+1,n))++[((k:N)+1,S)]):=O (by rw[B,lr];rfl);obtain⟨-,_,_,U,-,-,o⟩:=E.out;injection U with V X VZ
 subst V;subst VZ;obtain⟨gn,on,rfl,-,o⟩:=o Y;have x:=o j (T A S) (by rw[j5,h];rfl);have aa:=R (RF++(u.take j).map λn=>((k:N)+1,n)) ((k:N)+1,S) Ψ wr s g.lt (by
  rw[jM,jM,jF,j6];have C:=T4.out;rw[a1]at C;have h2:=bc.out;simp only[j9,qn]
  omega)
 rw[kl,<-bd]at aa;dsimp only at aa;obtain⟨fn,tmps,assign,body,hy,hR⟩:=aa;have HR:=O hR;clear o h B X hR
 gi_wp2_with fail
 refine⟨I,HR.mono ?_⟩;rintro e W3 (⟨rfl,Wd,B,h⟩|⟨rfl,YJ,B,h⟩)
 ·have Tq:=O (g.yield B h)
  have Tf:=O (q.keep h);have bf:=O (E.keep h);have X:=O Wd;have bm:=B.size;clear Wd B h HR g q E s hy x
  gi_wp2_with fail
  exact⟨⟨by omega,j+1,Ψ,by go_num,by omega,Tq,X,Tf,bf⟩,by simp only[js];omega⟩
 have X:=O YJ;clear YJ B h HR g q E s hy x
 gi_wp2
 refine ms (sg I _ _ _) I ?_;exact⟨⟨_,I⟩,.inr ⟨_,_,trivial,X⟩⟩
end
section
attribute [local go_sem] Oper.semAt_some
def EB0:EK (N×N):=⟨λx=>[T A x.2,T A x.1,T A 0,jg jc 0 0],4,54,by decide,λ_=>rfl,λx v a=>by simp at a;rcases a with rfl|rfl|rfl|rfl<;>rfl⟩
theorem FK:(jk.info? 54).map (λi=>(i.zero,i.size,i.bytes))=jb (jb (jn #[T A 0,T A 0,T A 0,jg jc 0 0]),4,48):=by kernel_rfl
theorem Mm(b:jl)(a:N)(w:jh):jq jk 35 #[jn #[b],T A a] w λe w'=>e=jp (.func (.func 98) #[] #[jz (jb ⟨w.heap.size+1,0,jc⟩),jz (jb ⟨w,0,jc⟩)])/\w'=(w.alloc (jf #[b] 27)).alloc (jf #[T A a] 3):=by
 go_enter func35,ntmps35
 go_wp2_with fail
 go_ret;exact⟨I,I⟩
section
variable {P:jU} {F:Fence} {nF:ja}
theorem CM{e:jD j0}{i:je j0}{o:j0}{a:Act}{w:jh}{j:Exit->Act->jh->Prop}(k:Region.wanted o (yielded e a.tmps)=jm)(b:jH)(x:Operand)(f:o.op=.load b x)
 (g:ja) (l:a.eval x=jz (jb ⟨g,0,jc⟩)) (t:jH) (cs:jD jl) (fr:ja×ja) (d:TypeDesc) (m:w.heap[g]?=jb (jf cs t fr))
 (n:P.underlying b=jb d) (p:(match d with| .struct _ | .array _ _=>jm|_=>jj)=jm) (q:(P.info? b).map (·.size)=jb cs.size)
 (h:wpListIn F nF P e j i (a.put o.dst (jn cs)) w):wpListIn F nF P e j (o::i) a w:=by
 refine wpListIn_step λu r=>?_
 rw[ju k];unfold Oper.wpIn;refine⟨by simp[Oper.about,f],?_⟩;rw[Oper.semAt_plain F _ _ (by rw[f];intro c s;cases s)];simp only[execOp,f,l,Instr.loadAt,Instr.sureAddr,Sem.run_bind,Sem.run_pure,Result.andThen_ok,run_loadVar_row w g t b cs fr d m n p q];exact r _ _ h
end
theorem mw{g:aI}{a:N}{l:je ak}(c:co g)(f:dz l)(d:dQ g a l):0<=a/\a<512:=by
 by_cases h:0<g.epoch
 ·have b:=d.own
  rw[jO h]at b;unfold cN at b;obtain⟨m,i,j⟩:=qS.1 b;have k:a∈aY g.tree:=by rw[<-c.dev];exact jN.2 ⟨m,i,by simpa using j⟩
  have e:=(ly g.tree a).1 k;exact⟨e.1,e.2.1⟩
 have he:g.epoch=0:=by have:=c.ep.1;omega
 obtain⟨x,r,rfl,b⟩:=d.first he;have:=(f.each x (qx ..)).1;rw[<-b];exact this
theorem vH(g:aI)(a:N)(l:je ak):(fg g=jj/\cK g a l=1)\/(fg g=jm/\(gQ l=jj\/kB g a l=jj)/\cK g a l=221)\/(fg g=jm/\gQ l=jm/\kB g a l=jm/\cK g a l=0):=by
 unfold cK
 by_cases h:co g
 ·rw[Cl h,ju h]
  by_cases b:dz l/\dQ g a l
  ·rw[ju b];exact .inr (.inr ⟨I,nB.2 b.1,rZ.2 b.2,I⟩)
  rw[jy b];refine .inr (.inl ⟨I,?_,I⟩)
  by_cases c:dz l
  ·right;exact sc λd=>b ⟨c,d⟩
  left;exact C0 c
 rw[ij h,jy h];exact .inl ⟨I,I⟩
theorem rQ(g:aI)(vm vt vl:jl)(a:N)(l:je ak)(w:jh)(h:cr w g vm vt)(j:EC.At w vl l)(k:g.mem.length<=1000000)(E:g.tree.length<=700000)(m:l.length<=1000000):
 jq jk 10 #[jn (aG g vm vt).toArray,T A a,vl] w λe w'=>∃B,e=jp (jC #[B,T A (cK g a l)])/\w'.ownsRow w 54 4 B (dj g a l).length (EB0.flat (dj g a l))/\ji w w w':=by
 have D:=vH g a l;have t:=lC (vm:=vm) (vt:=vt) h.llen;obtain⟨o,c⟩:=J ((aG g vm vt).toArray);rw[<-c]at t⊢;have F:=az (jw w (jf o 29)) (ai (w.alloc (jf o 29)) (jf #[jg jc 0 0] 35));have u:=jw (w.alloc (jf o 29)) (jf #[jg jc 0 0] 35);rw[jK]at u;have i:ji w w ((w.alloc (jf o 29)).alloc (jf #[jg jc 0 0] 35)):=(ai w _).trans ((ai (w.alloc (jf o 29)) (jf #[jg jc 0 0] 35)).mono (ai w _).size);have y:=O F;have K:=O u;have M:=O i;have z:=O (h.below i);have C:=O (j.below i);obtain⟨r,s,rfl,-,-⟩:=j.form;obtain⟨n,v⟩:=J l.length;rw[<-v]at C⊢;have HV:jd (∀W,cr W g vm vt->jq jk 32 #[jn o] W λe w'=>e=jp (.bool (fg g))/\ji W W w'):=O (by rw[c];exact λW d=>z6 g vm vt W d k Y);have HP:jd (∀W,co g->cr W g vm vt->EC.At W (jg r n s) l->jq jk 34 #[jn o,T A a,jg r n s] W λe w'=>e=jp (.bool (kB g a l))/\ji W W w'):=O (by rw[c];exact λW f d x=>MN g vm vt _ a l W d f k x m);have Yr:jd (∀W,dz l->cr W g vm vt->EC.At W (jg r n s) l->jq jk 36 #[jn o,jg r n s] W λe w'=>∃B,e=jp (jn #[B])/\bp w' B (aV g.tree l)/\ji W W w'):=O (by rw[c];exact λW q d x=>vF g vm vt _ l W d q E x);have R:=O t;have HL:=O m;have Uv:=O v;have Vq:=O E;have U1:=O D;obtain⟨er,d⟩:=J (cK g a l);have Yz:jd (er≠0->dj g a l=[]):=O (λh=>by unfold dj;rw[jy (by rw[<-d];exact h)]);have ba:jd (er=0->dj g a l=dI (aV g.tree l) a):=O (λh=>by unfold dj;rw[ju (by rw[<-d];exact h)]);rw[<-d]at U1⊢;clear D t c F u i h j k E m v d;refine(rv (n:=0)).1 ?_;refine y5 func10 I trivial ?_ I;simp only[ntmps10,j3,j9,qn,qE,qF,qG,qH,qI,qJ,qc,qd]
 gi_wp2_with (refine nD I 29 _ I w.heap.size I 29 o (0,0) _ y.out qm I R ?_)
 refine⟨trivial,I,(callsIn_wide.2 (HV _ z.out)).mono ?_⟩;rintro e S ⟨rfl,c⟩;have F:=Z y c;have v:=Z K c;have U:=O (z.below c);have x:=O (C.below c);have H:=ac M c;clear c y K z C M;obtain⟨d,i⟩:=J w.heap.size;rw[<-i]at F v⊢;have M:=O i;clear i
 rcases U1.out with⟨f,he⟩|⟨f,C,he⟩|⟨f,q,C,he⟩
 ·subst he
  rw[f];have K:jd (dj g a l=[]):=O (Yz G);have i:jA S (d+1) 35 (jg jc 0 0):=v.out;clear f;have Vd:=i.cell;have aa:=i.frozen
  gi_wp2_with fail
  have y:(S.setCell ⟨d+1,0,jc⟩ (jg jc 0 0)).cell? ⟨d+1,0,jc⟩=jb (jg jc 0 0):=(i.set _).cell;exact⟨jC #[jg jc 0 0,T A 1],by simp[results,qC,go_sem,y],_,I,by rw[K];exact kn _ _ _ _,H.setCell (p:=⟨d+1,0,jc⟩) (by rw[M];show w.heap.size<=w.heap.size+1;omega) _⟩
 ·subst he
  rw[f];have P:co g:=by
   by_cases Q:co g
   ·exact Q
   rw[ij Q]at f;cases f
  have V:=O P;have K:jd (dj g a l=[]):=O (Yz G);clear f P;have a2:=O C;clear C;have ad:=O (yM l (jg r n s))
  gi_wp2_with fail
  refine⟨trivial,I,(callsIn_wide.2 (ad S x HL)).mono ?_⟩;rintro e z ⟨rfl,c⟩;have j:=Z F c;have k:=Z v c;have m:=O (U.below c);have t:=O (x.below c);have u:=ac H c;clear F v U x H;clear c
  rcases a2.out with q|q
  ·rw[q]
   clear q;have i:jA z (d+1) 35 (jg jc 0 0):=k.out;have Vd:=i.cell;have aa:=i.frozen
   gi_wp2_with fail
   refine⟨trivial,?_⟩
   gi_wp2_with fail
   have y:(z.setCell ⟨d+1,0,jc⟩ (jg jc 0 0)).cell? ⟨d+1,0,jc⟩=jb (jg jc 0 0):=(i.set _).cell;exact⟨jC #[jg jc 0 0,T A 221],by simp[results,qC,go_sem,y],_,I,by rw[K];exact kn _ _ _ _,u.setCell (p:=⟨d+1,0,jc⟩) (by rw[M];show w.heap.size<=w.heap.size+1;omega) _⟩
  by_cases D:gQ l=jj
  ·rw[D]
   clear D q;have i:jA z (d+1) 35 (jg jc 0 0):=k.out;have Vd:=i.cell;have aa:=i.frozen
   gi_wp2_with fail
   refine⟨trivial,?_⟩
   gi_wp2_with fail
   have y:(z.setCell ⟨d+1,0,jc⟩ (jg jc 0 0)).cell? ⟨d+1,0,jc⟩=jb (jg jc 0 0):=(i.set _).cell;exact⟨jC #[jg jc 0 0,T A 221],by simp[results,qC,go_sem,y],_,I,by rw[K];exact kn _ _ _ _,u.setCell (p:=⟨d+1,0,jc⟩) (by rw[M];show w.heap.size<=w.heap.size+1;omega) _⟩
  have D:gQ l=jm:=ah D;rw[D];have al:=O q;clear D q
  gi_wp2_with (refine CM aj 29 _ I d I 29 o (0,0) _ j.out qm I R ?_)
  refine⟨trivial,I,(callsIn_wide.2 (HP z V m t)).mono ?_⟩;rintro e X ⟨rfl,c⟩;have au:=Z j c;have Ss:=Z k c;have a1:=O (m.below c);have Sl:=O (t.below c);have RI:=ac u c;clear j k m t u;clear c;rw[al];have i:jA X (d+1) 35 (jg jc 0 0):=Ss.out;have Vd:=i.cell;have aa:=i.frozen
  gi_wp2_with fail
  have y:(X.setCell ⟨d+1,0,jc⟩ (jg jc 0 0)).cell? ⟨d+1,0,jc⟩=jb (jg jc 0 0):=(i.set _).cell;exact⟨jC #[jg jc 0 0,T A 221],by simp[results,qC,go_sem,y],_,I,by rw[K];exact kn _ _ _ _,RI.setCell (p:=⟨d+1,0,jc⟩) (by rw[M];show w.heap.size<=w.heap.size+1;omega) _⟩
 subst he;rw[f];have P:co g:=by
  by_cases Q:co g
  ·exact Q
  rw[ij Q]at f;cases f
 have V:=O P;have Q:=O (nB.1 q);have T4:=O (rZ.1 C);have bb:=O q;have al:=O C;have ad:=O (yM l (jg r n s));clear f P q C
 gi_wp2_with fail
 refine⟨trivial,I,(callsIn_wide.2 (ad S x HL)).mono ?_⟩;rintro e z ⟨rfl,c⟩;have j:=Z F c;have k:=Z v c;have m:=O (U.below c);have t:=O (x.below c);have u:=ac H c;clear F v U x H;clear c;rw[bb]
 gi_wp2_with (refine CM aj 29 _ I d I 29 o (0,0) _ j.out qm I R ?_)
 refine⟨trivial,I,(callsIn_wide.2 (HP z V m t)).mono ?_⟩;rintro e X ⟨rfl,c⟩;have au:=Z j c;have Ss:=Z k c;have a1:=O (m.below c);have Sl:=O (t.below c);have RI:=ac u c;clear j k m t u;clear c;rw[al]
 gi_wp2_with (refine nD I 29 _ I d I 29 o (0,0) _ au.out qm I R ?_)
 refine⟨trivial,I,(callsIn_wide.2 (Yr X Q a1 Sl)).mono ?_⟩;rintro e i ⟨B,rfl,j,c⟩;have k:=O j;have m:=Z Ss c;have u:=ac RI c;clear au Ss a1 Sl RI;clear c j;obtain⟨C,F,H,rfl⟩:=iW k
 gi_wp2_with fail
 refine⟨trivial,I,(callsIn_wide.2 (Mm _ a i)).mono ?_⟩;rintro e t ⟨rfl,c⟩
 gi_wp2_with fail
 rw[<-c];have j:ji i i t:=by rw[c];exact(ai i _).trans ((ai _ _).mono (ai i _).size)
 have bT:t.heap[i.heap.size]?=jb (jf #[jg C F H] 27 (0,0)):=by rw[c];exact az (jw i _) (ai _ _)
 have bA:jA t (i.heap.size+1) 3 (T A a):=by
  have h:=Boxed.new (i.alloc (jf #[jg C F H] 27)) 3 (T A a);rw[jK]at h;rw[c];exact h
 have bN:jA t (d+1) 35 (jg jc 0 0):=az m j;have bc:=k.below j;have bd:ji w w t:=u.trans (j.mono u.size);have VR:i.heap.size+2<=t.heap.size:=by rw[c];simp
 have bl:d+1<i.heap.size:=(jL.1 m).1;have bf:w.heap.size=d:=M.symm;have aa:=O bf;obtain⟨h0,h1⟩:=mw V Q T4;have E:(aV g.tree l).length<=1000000:=by have:=uF g.tree l;have:=Vq.out;have:=Q.len;omega
 have T9:jd (dj g a l=dI (aV g.tree l) a):=O (ba (by trivial));have YQ:jd (d+1<=t.heap.size):=O Y;obtain⟨i0,hi,RQ,bg,bh⟩:=mm FK;clear c m k j u;refine o5 (n:=0) (gf:=98) (lb:=#[jz (jb ⟨i.heap.size+1,0,jc⟩),jz (jb ⟨i,0,jc⟩)]) I (enters_of func98 ag I)
  (MC (aV g.tree l) (jg C F H) a h0 h1 t (d+1) jc 0 0 35 bN (i.heap.size+1) i.heap.size Y Y bA bT bc E) Y (λ_=>rfl) (λk hk=>hk.2.2)
  (λu Ψ W=>lI (d+1) 35 (d+1) 54 4 u.length (EB0.flat u) (λ_=>True) Ψ W/\(ji w w W/\∀k,Ψ k->w.heap.size<=k))
  (λ_ _ _ _=>False)
  ((pN t.heap.size (d+1) 35 (d+1) 54 4 (λu=>u.length) (λu=>EB0.flat u) (λ_ _=>True)).and (l9 _ _ w (jt _) Y))
  (λ_=>fA _ _)
  ⟨⟨_,bN,λh=>h.2.1 rfl,kn _ _ _ _,by simp[xD],trivial⟩,bd,λk hk=>by omega⟩
  (λx D _ _=>D={tmps:=#[jn o,T A a,jg r n s,jz (jb ⟨d,0,jc⟩),jJ,jJ,jz (jb ⟨d+1,0,jc⟩),T A 0,T A x.1,T A x.2,
   jn o,.bool jm,.bool jj,jg r n s,.bool jm,.bool jj,.bool jj,jn o,T A a,jg r n s,.bool jm,.bool jj,.bool jj,jn o,jg r n s,jn #[jg C F H],T A a,
   .func (.func 98) #[] #[jz (jb ⟨i.heap.size+1,0,jc⟩),jz (jb ⟨i,0,jc⟩)],T A x.1,T A x.2,jJ,jJ,jJ,jJ,jJ,jJ,jJ],defers:=[]}) (fA _ _)
  ?assign ?body ?done ?stop
 case assign=>
  intro l' u x Ψ j K c _ P
  gi_wp2
  exact P _ _ (jG _ _) c I
 case body=>
  rintro l' u ⟨U,nd⟩ Ψ D RR ⟨⟨v,f,a2,c,x,-⟩,k,hΨ⟩ rfl j Yo bm Zr;have bn:u.length<=10000:=by have:=j;rw[jM]at this;omega
  have hc:=f.cell;have K:=O k;have bo:=k.size;have VD:=O (Dr RR [T A nd,T A U,T A 0,jg jc 0 0] 54);clear k j
  gi_wp2_with (gi_at_builtin;refine zk _ I _ _ 35 I (d+1) 54 i0 (jn #[T A 0,T A 0,T A 0,jg jc 0 0]) 4 48 underlying35 hi RQ bg bh I G _ _ _ I (c.alloc _) ⟨RR,0,jc⟩ 1 1 [T A nd,T A U,T A 0,jg jc 0 0] I I VD (by simp[kw]) (by unfold j8;omega) Y (by simp;omega) ?_;intro v' w1 a3 a4 bq a5;obtain⟨g',br,rfl⟩:=ownsRow_succ a3;obtain⟨m,bk⟩:=pI (B0:=t.heap.size) f G c Y (jt _) a2 x Yo a3 a4 (by intro j hj;rw[hj]at a5;rcases a5 with h|h;exact .inl h.symm;exact .inr (ah h));have j:jA w1 (d+1) 35 v:=(f.alloc _).kept a4 (by have:=f.not_row (e:=54) G c;exact this);have bs:=j.cell;have bu:=j.frozen)
  obtain⟨v',j,b2,b3,b4,b5⟩:=bk;refine⟨⟨m.1,m.2.1,m.2.2⟩,⟨v',j,b2,?_,b4,trivial⟩,K.trans (m.2.1.mono (by rw[aa];omega)),hΨ⟩;rw[EB0.flat_append,jM];exact b3
 case done=>
  rintro D xs Ψ W hD hS ⟨⟨v,f,a2,c,x,-⟩,k,hΨ⟩ P;have hc:=f.cell;have q:=f.frozen;have K:=O k;clear k;obtain⟨j,k,rfl⟩:=a8 c;obtain⟨m,U⟩:=J xs.length;rw[<-U]at f c x hc;have a3:=O U;have a4:=O hS;clear U hS
  gi_wp2
  refine⟨by simp,.inl ⟨_,_,I,run_takeDeferred (b:=D) (ds:=[]) ?_,?_⟩⟩
  ·exact(KeepsOthers.setCell W _ _).same D _ P I
  have U:jA (W.setCell ⟨d+1,0,jc⟩ (jg j m k)) (d+1) 35 (jg j m k):=f.set _;have VE:(W.setCell ⟨d+1,0,jc⟩ (jg j m k)).heap[D]?=jb (.deferred (jb [])):=(KeepsOthers.setCell W _ _).same D _ P I;have a5:(W.setCell ⟨d+1,0,jc⟩ (jg j m k)).ownsRow (d+1) 54 4 (jg j m k) m (EB0.flat xs):=
   c.kept (qA W _ _) (.inr (f.not_row (e:=54) G c).symm)
  have bk:jA ((W.setCell ⟨d+1,0,jc⟩ (jg j m k)).putObj D (.deferred jc)) (d+1) 35 (jg j m k):=
   (World.putObj_heap_other Y).trans U
  have y:=bk.cell;refine⟨jC #[jg j m k,T A 0],by simp[results,qC,go_sem,y],_,I,?_,?_⟩
  ·have h:=ownsRow_putObj a5 (.deferred jc) VE I
   rw[aa,T9,<-a4,<-a3];exact pZ h Y
  exact(K.setCell (p:=⟨d+1,0,jc⟩) (by show w.heap.size<=d+1;omega) _).trans (iO Y)
 intro D c u Ψ W _ _ h;exact h.elim
end
theorem cZ.at{c:aD}{q:CQ}(h:cZ w b c q):w.cell? ⟨b,0,jc⟩=jb (T A c.folder)/\w.cell? ⟨b,1,jc⟩=jb (T A c.epoch)/\w.cell? ⟨b,34,jc⟩=jb (T A c.author)/\w.cell? ⟨b,35,jc⟩=jb q.vc/\w.cell? ⟨b,36,jc⟩=jb q.vp/\
 w.cell? ⟨b,37,jc⟩=jb q.vb/\w.cell? ⟨b,38,jc⟩=jb q.vw/\w.cell? ⟨b,71,jc⟩=jb (T A c.r)/\w.cell? ⟨b,72,jc⟩=jb (T A c.s):=by
 obtain⟨a,d,e,f,g,i,j,k,l⟩:=fk c q h.plen h.clen;exact⟨h.get a,h.get d,h.get e,h.get f,h.get g,h.get i,h.get j,h.get k,h.get l⟩
theorem cZ.new(w:jh){c:aD}{q:CQ}(a:c.parent.length=32)(b:c.confirm.length=32):cZ (w.alloc (jf (av c q).toArray 63)) w.heap.size c q:=⟨jw w _,a,b⟩
theorem cZ.lt{B:aD}{F:CQ}(h:cZ w b B F):b<w.heap.size:=(jL.1 h.blk).1
theorem cZ.below{c:aD}{q:CQ}(h:cZ w b c q)(a:ji w w w'):cZ w' b c q:=h.keep (a.block b h.lt)
theorem rO{l:je u}{f:u->jl->je jl}(h:ay D w a b l.length (dm f l y))(hk:∀x v,(f x v).length=b){j:ja}{x:u}{v:jl}(d:l[j]?=jb x)(m:y[j]?=jb v):∃g o c,a=jg (jb ⟨g,o,jc⟩) l.length c/\∀i k,(f x v)[i]?=jb k->w.cell? ⟨g,o+j*b+i,jc⟩=jb k:=by
 obtain⟨s,p,c,rfl,t,α,n⟩:=h;have z:=(oo.1 d).1;obtain⟨g,o,rfl,-,q⟩:=n Y;refine⟨g,o,c,I,λi k e=>?_⟩;have r:i<b:=by rw[<-hk x v];exact(oo.1 e).1
 rw[Nat.add_assoc];exact q (j*b+i) k ((pD f b hk l y j i x v d m r).trans e)
def ym(b:Bx):Prop:=1<=b.node/\b.node<1024/\1<=b.lev/\b.lev<=9/\lu b.u b.body.length
def s8(x:Wl):Prop:=dH x.dev/\lu x.u x.body.length
structure kI(l:je Wl):Prop where
 each:∀x∈l,s8 x
 inc:∀i,0<i->i<l.length->((l.map Wl.dev).getD (i-1) 0)<((l.map Wl.dev).getD i 0)
theorem kI.snoc{l:je Wl}{x:Wl}(h:kI l)(e:s8 x)(f:l=[]\/∃y,l[l.length-1]?=jb y/\y.dev<x.dev):kI (l++[x]):=by
 refine⟨λy a=>?_,λi c g=>?_⟩
 ·rcases nn.1 a with a|a
  ·exact h.each y a
  rw[p6]at a;subst a;exact e
 rw[jM,tx]at g;rw[lr]
 rcases pa i l.length with b|b
 ·have d:=h.inc i c b
  simp only[jQ,q5 (show i<(l.map Wl.dev).length by rw[jF];exact b),q5 (show i-1<(l.map Wl.dev).length by rw[jF];omega)]at d⊢;exact d
 obtain rfl:i=l.length:=Y
 rcases f with rfl|⟨y,a,d⟩
 ·exact jB c ax
 simp only[jQ,q5 (show l.length-1<(l.map Wl.dev).length by rw[jF];omega),xq (show(l.map Wl.dev).length<=l.length by rw[jF];exact jt _),j5,a,jF,Nat.sub_self]
 simpa using d
theorem kI.nil:kI []:=⟨(λx h=>by cases h),λi b a=>jB a ax⟩
theorem oN:lF d b=0↔lu d b:=⟨λh=>by
 by_cases g:lu d b
 ·exact g
 rw[tj g]at h;exact jB h G,Dn⟩
theorem Dt(c:aD)(q:CQ)(w:jh)(a:aF (·<w.heap.size) w c q)(l1:c.chg.length<=1000000)(l2:c.path.length<=1000000)(l3:c.box.length<=1000000)(l4:c.wel.length<=1000000)(l5:∀b∈c.box,b.body.length<4611686018427387904)(l6:∀b∈c.wel,b.body.length<4611686018427387904):
 jq jk 25 #[jn (av c q).toArray] w λe w'=>e=jp (T A (fD c))/\ji w w w':=by
 obtain⟨r,B⟩:=J (fD c);rw[<-B];have C:=O B;have D:=cZ.new w (q:=q) a.plen a.clen;have f:=ai w (jf (av c q).toArray 63);obtain⟨pc,cc,F⟩:=a.chg.form;obtain⟨pp,cp,j⟩:=a.path.form;obtain⟨pb,cb,k⟩:∃p c',q.vb=jg p c.box.length c':=by obtain⟨us,h,-⟩:=a.box;exact h.form
 obtain⟨pw,cw,n⟩:∃p c',q.vw=jg p c.wel.length c':=by obtain⟨us,h,-⟩:=a.wel;exact h.form
 obtain⟨o,t,c2,g,m,s,x,-,-⟩:=D.at;rw[F]at g;rw[j]at m;rw[k]at s;rw[n]at x;have bl:=O (EK.At.of_sl (E:=EC) a.chg);have bC:=O a.path;have We:=O a.box;have UN:=O a.wel;have bI:=O l5;have bK:=O l6;rw[F]at bl;obtain⟨nc,u⟩:=J c.chg.length;obtain⟨np,y⟩:=J c.path.length;obtain⟨nb,bb⟩:=J c.box.length;obtain⟨P,bc⟩:=J c.wel.length;rw[<-u]at g bl l1;rw[<-y]at m l2;rw[<-bb]at s l3;rw[<-bc]at x l4;obtain⟨fd,H⟩:=J c.folder;obtain⟨ep,K⟩:=J c.epoch;obtain⟨au,M⟩:=J c.author;rw[<-H]at o;rw[<-K]at t;rw[<-M]at c2;obtain⟨x0,i⟩:=J (w.alloc (jf (av c q).toArray 63));obtain⟨b,S⟩:=J w.heap.size;have z:=D.blk;obtain⟨ad,d⟩:=J ((av c q).toArray);rw[<-d]at i f z⊢;rw[<-d]at o t c2 g m s x;rw[<-i,<-S]at o t c2 g m s x z;rw[<-i]at f;have HX:=O i;have TJ:=O S;have Q:=O z;have R:=O f;have R2:=O (bl.below f);have cu:jd (ad[36]?=jb (jg pp np cp)):=O (by rw[d,y,<-j];simpa using(fk c q a.plen a.clen).2.2.2.2.1);have bM:jd (ad[37]?=jb (jg pb nb cb)):=O (by rw[d,bb,<-k];simpa using(fk c q a.plen a.clen).2.2.2.2.2.1);have aa:jd (ad[38]?=jb (jg pw P cw)):=O (by rw[d,bc,<-n];simpa using(fk c q a.plen a.clen).2.2.2.2.2.2.1);have cv:=O u;have bh:=O y;have Yz:=O bb;have YK:=O bc;have br:=O H;have Uy:=O K;have bs:=O M;have bN:=O j;have bO:=O k;have bu:=O n;have U:=O (CI fd);have al:=O (zx au);obtain⟨fo,V⟩:=J (decide (fu fd));obtain⟨dv,a3⟩:=J (decide (dH au));rw[<-V]at U;rw[<-a3]at al;have bv:=O V;have bw:=O a3;have W:=O (yM c.chg (jg pc nc cc));obtain⟨fm,X⟩:=J (gQ c.chg);rw[<-X]at W;have bA:=O X;have Zg:jd (c.chg.length<=1000000):=O (by rw[<-u];exact l1);clear B D f F j k n a u y bb bc H K M i S z d V a3 X l5 l6
 go_enter func25,ntmps25
 go_upto_region 1 with fail
 rw[<-HX,<-TJ]
 go_wp2_with fail
 refine(U x0).mono ?_;rintro e x1 ⟨rfl,rfl⟩
 cases fo with
 |false=>
  obtain rfl:r=220:=by rw[C];exact eO λh=>by have h2:=h.fol;rw[<-br]at h2;have h3:=bv.out;rw[jO h2]at h3;cases h3
  go_wp2_with fail
  go_ret;exact⟨I,R⟩
 |true=>
 by_cases f:ep<1
 ·have bT:decide (ep<1)=jm:=ah f
  obtain rfl:r=220:=by rw[C];exact eO λh=>by have:=h.ep.1;rw[<-Uy]at this;omega
  clear f
  go_wp2_with fail
  go_ret;exact⟨I,R⟩
 have bT:decide (ep<1)=jj:=ah f;have UI:=O f;clear f
 by_cases f:1099511627776<ep
 ·have b3:decide (1099511627776<ep)=jm:=ah f
  obtain rfl:r=220:=by rw[C];exact eO λh=>by have:=h.ep.2;rw[<-Uy]at this;omega
  clear f
  go_wp2_with fail
  go_ret;exact⟨I,R⟩
 have b3:decide (1099511627776<ep)=jj:=ah f;have B:=O f;clear f
 go_wp2_with fail
 refine(al x0).mono ?_;rintro e x1 ⟨rfl,rfl⟩
 cases dv with
 |false=>
  obtain rfl:r=220:=by rw[C];exact eO λh=>by have h2:=h.aut;rw[<-bs]at h2;have h3:=bw.out;rw[jO h2]at h3;cases h3
  go_wp2_with fail
  go_ret;exact⟨I,R⟩
 |true=>
 go_wp2_with fail
 refine(W x0 R2 Zg).mono ?_;rintro e x1 ⟨rfl,d⟩;have X:=Z Q d;have H:=ac R d;replace m:=aB m d;replace s:=aB s d;replace x:=aB x d;clear d Q R R2 o t c2 g W al U
 cases fm with
 |false=>
  obtain rfl:r=220:=by rw[C];exact eO λh=>by have h2:=nB.2 h.chg;rw[<-bA]at h2;cases h2
  go_wp2_with fail
  go_ret;exact⟨I,H⟩
 |true=>
 by_cases f:¬np=10
 ·have a:((np:N)==10)=jj:=by simp;omega
  have g:((np:N)!=10)=jm:=by simp;omega
  obtain rfl:r=220:=by rw[C];exact eO λh=>f (bh.trans h.plen)
  clear f
  go_wp2_with fail
  go_ret;exact⟨I,H⟩
 have b4:np=10:=Y;clear f;subst b4
 by_cases f:1024<nb
 ·have b5:=ao (1024<(nb:N))
  obtain rfl:r=220:=by rw[C];exact eO λh=>by have:=h.blen;rw[<-Yz]at this;omega
  clear f
  go_wp2_with fail
  go_ret;exact⟨I,H⟩
 have b5:=ap (1024<(nb:N));have bb:nb<=1024:=Y;clear f
 by_cases f:512<P
 ·have ca:=ao (512<(P:N))
  obtain rfl:r=220:=by rw[C];exact eO λh=>by have:=h.wlen;rw[<-YK]at this;omega
  clear f
  go_wp2_with fail
  go_ret;exact⟨I,H⟩
 have ca:=ap (512<(P:N));have bc:P<=512:=Y;clear f
 go_wp2_with fail
 go_loopw [56] (λi wr=>∃k:ja,i=T A k/\k<=10/\jd (∀j,j<k->aW (c.path.getD j 0))/\jd (wr.heap[b]?=jb (jf ad 63 (0,0)))/\jd (ji w w wr)) (λi _=>10-(js i).toNat)
 case atStart=>exact⟨0,I,jS _,O (λj hj=>jB hj Y),X,H⟩
 obtain⟨k,rfl,hk,HP,HK,z⟩:=hrel
 by_cases bd:k<10
 case pos=>
  have cd:=ao ((k:N)<10);have U:=ao (k<10);obtain⟨y,K⟩:∃y,c.path[k]?=jb y:=⟨_,lm (by rw[<-bh];exact bd)⟩;obtain⟨-,V,c',F,-,-,D⟩:=bC.out;rw[bN]at F;injection F with e1 e2 e3
  obtain⟨g,o,hg,-,D⟩:=D (by rw[<-bh];omega);rw[hg]at e1;subst e1;have d0:wr.cell? ⟨g,o+k,jc⟩=jb (T A y):=aB (D k (T A y) (by rw[j5,K];rfl)) z;have HY:=O K;have a:=O (fO y);obtain⟨u,t⟩:=J (b7 y);rw[<-t]at a;have TI:=O t;clear K D e2 e3 hg t
  go_wp2_with fail
  refine(a _).mono ?_;rintro e W ⟨rfl,d⟩;have S:=Z HK d;have M:=ac z d;clear d a HK z d0
  by_cases n:u=0
  ·have a4:(u !=0)=jj:=ah n
   have a5:(u==0)=jm:=ah n;have ba:jd (∀j,j<k+1->aW (c.path.getD j 0)):=O (λj hj=>by
    rcases pa j k with a|a
    ·exact HP j a
    obtain rfl:j=k:=Y;rw[show c.path.getD j 0=y by simp[jQ,HY.out]];exact wH.1 (TI.symm.trans n))
   clear n
   go_wp2_with fail
   exact⟨⟨k+1,by go_num,by omega,ba,S,M⟩,by simp only[js];omega⟩
  have a4:(u !=0)=jm:=ah n;have a5:(u==0)=jj:=ah n;obtain rfl:r=220:=by rw[C];exact eO λh=>n (by rw[TI];exact wH.2 (h.path y (jX HY)))
  clear n
  go_wp2_with fail
  go_ret;exact⟨I,M⟩
 have cd:=ap ((k:N)<10);have ce:jd (∀j,j<10->aW (c.path.getD j 0)):=O (λj hj=>HP j Y);have a:=ae HK bM;clear m s x X H HP
 go_wp2_with fail
 go_loopw [67] (λi wz=>∃k:ja,i=T A k/\k<=nb/\jd (∀x∈c.box.take k,ym x)/\jd (wz.heap[b]?=jb (jf ad 63 (0,0)))/\jd (ji w w wz)) (λi _=>nb-(js i).toNat)
 case atStart=>exact⟨0,I,jS _,O ax,HK,z⟩
 clear a HK z;obtain⟨k,rfl,hk,HP,HK,z⟩:=hrel
 by_cases bd:k<nb
 case pos=>
  have bm:=ao ((k:N)<(nb:N));have bn:=ao (k<nb);obtain⟨x,f,U3⟩:=dF (l:=c.box) (j:=k) (by rw[<-Yz];exact bd);obtain⟨us,bf,bg⟩:=We.out;obtain⟨cf,hu,ZJ⟩:=bg.at (i:=k) (b:=x.body) (by rw[j5,f];rfl);obtain⟨g,o,c',hq,D⟩:=rO bf (λ_ _=>rfl) f hu;rw[bO]at hq;injection hq with e1 e2 e3
  subst e1;subst e3;obtain⟨U,V,rfl⟩:=ZJ.form;have a1:=bI x (jX f);have YX:=O f;have Yt:=O U3;obtain⟨m,hm⟩:=J x.body.length;have HM:=O hm;obtain⟨a,s,F,xb⟩:=x;dsimp only at a1 hm D;rw[<-hm]at a1 D;have d0:wr.cell? ⟨g,o+k*4,jc⟩=jb (T A a):=aB (D 0 _ I) z;have d1:wr.cell? ⟨g,o+k*4+1,jc⟩=jb (T A s):=aB (D 1 _ I) z;have d2:wr.cell? ⟨g,o+k*4+2,jc⟩=jb (T A F):=aB (D 2 _ I) z;have M:wr.cell? ⟨g,o+k*4+3,jc⟩=jb (jg U m V):=aB (D 3 _ I) z;have a2:=O (El F U m V a1);obtain⟨u,t⟩:=J (lF F m);rw[<-t]at a2;have TI:=O t;clear D bf bg hu ZJ f U3 e2 hm t a1
  go_upto_region 12 with fail
  obtain⟨y1,WA⟩:=J wr;have X:jd (y1.heap[b]?=jb (jf ad 63 (0,0))):=by rw[WA];exact HK
  have H:jd (ji w w y1):=by rw[WA];exact z
  rw[<-WA]at d0 d1 d2 M⊢;clear WA HK z;have d:=ai y1 (jf #[T A a,T A s,T A F,jg U m V] 54);have RJ:=jw y1 (jf #[T A a,T A s,T A F,jg U m V] 54);obtain⟨y2,f⟩:=J (y1.alloc (jf #[T A a,T A s,T A F,jg U m V] 54));rw[<-f]at d RJ⊢;obtain⟨E,hg⟩:=J y1.heap.size;rw[<-hg]at RJ⊢;have cj:=O hg;have W:=Z X d;have S:=ac H d;clear X H;have B:=O RJ;clear RJ f d hg;have b0:=ae (i:=0) B I;have b1:=ae (i:=1) B I;have b2:=ae (i:=2) B I;have bk:=ae (i:=3) B I;clear d0 d1 d2 M
  by_cases f:a<1
  ·have g1:decide (a<1)=jm:=ah f
   obtain rfl:r=220:=by rw[C];exact eO λh=>by have M:=h.box _ (jX YX);exact by have:=M.1;dsimp only at this;omega
   clear f
   go_wp2_with fail
   go_ret;exact⟨I,S⟩
  have g1:decide (a<1)=jj:=ah f;have bo:1<=a:=Y;clear f
  by_cases f:1024<=a
  ·have g2:decide (1024<=a)=jm:=ah f
   obtain rfl:r=220:=by rw[C];exact eO λh=>by have M:=h.box _ (jX YX);exact by have:=M.2.1;dsimp only at this;omega
   clear f
   go_wp2_with fail
   go_ret;exact⟨I,S⟩
  have g2:decide (1024<=a)=jj:=ah f;have bq:a<1024:=Y;clear f
  by_cases f:s<1
  ·have g3:decide (s<1)=jm:=ah f
   obtain rfl:r=220:=by rw[C];exact eO λh=>by have M:=h.box _ (jX YX);exact by have:=M.2.2.1;dsimp only at this;omega
   clear f
   go_wp2_with fail
   go_ret;exact⟨I,S⟩
  have g3:decide (s<1)=jj:=ah f;have bB:1<=s:=Y;clear f
  by_cases f:9<s
  ·have g4:decide (9<s)=jm:=ah f
   obtain rfl:r=220:=by rw[C];exact eO λh=>by have M:=h.box _ (jX YX);exact by have:=M.2.2.2.1;dsimp only at this;omega
   clear f
   go_wp2_with fail
   go_ret;exact⟨I,S⟩
  have g4:decide (9<s)=jj:=ah f;have ck:s<=9:=Y;clear f
  go_wp2_with fail
  refine(a2 y2).mono ?_;rintro e y3 ⟨rfl,d⟩;have T5:=Z W d;have RI:=ac S d;clear d a2 W S B b0 b1 b2 bk
  by_cases n:u=0
  ·have a4:(u !=0)=jj:=ah n
   have a5:(u==0)=jm:=ah n;have ba:jd (∀y∈c.box.take (k+1),ym y):=O (λy K=>by
    rw[Yt]at K
    rcases nn.1 K with K|K
    ·exact HP y K
    rw[p6]at K;subst K;exact⟨by omega,by omega,by omega,by omega,by rw[<-HM];exact oN.1 (TI.symm.trans n)⟩)
   clear n
   go_wp2_with fail
   exact⟨⟨k+1,by go_num,by omega,ba,T5,RI⟩,by simp only[js];omega⟩
  have a4:(u !=0)=jm:=ah n;have a5:(u==0)=jj:=ah n;obtain rfl:r=220:=by rw[C];exact eO λh=>by have M:=h.box _ (jX YX);exact n (by rw[TI,HM];exact oN.2 M.2.2.2.2)
  clear n
  go_wp2_with fail
  go_ret;exact⟨I,RI⟩
 have bm:=ap ((k:N)<(nb:N));have bn:=ap (k<nb);obtain rfl:k=nb:=Y;have ck:jd (∀x∈c.box,ym x):=O (by have h:=HP.out;rw[jV (by rw[<-Yz];exact jt _)]at h;exact h);have f6:=ae HK aa;clear HP
 go_wp2_with fail
 go_loopw [99] (λi wz=>∃k:ja,i=T A k/\k<=P/\jd (kI (c.wel.take k))/\jd (wz.heap[b]?=jb (jf ad 63 (0,0)))/\jd (ji w w wz)) (λi _=>P-(js i).toNat)
 case atStart=>exact⟨0,I,jS _,O (ah kI.nil),HK,z⟩
 clear f6 HK z;obtain⟨k,rfl,hk,bk,HK,z⟩:=hrel
 by_cases bd:k<P
 case pos=>
  have bm:=ao ((k:N)<(P:N));have bn:=ao (k<P);obtain⟨x,f,U3⟩:=dF (l:=c.wel) (j:=k) (by rw[<-YK];exact bd);obtain⟨us,bf,bg⟩:=UN.out;obtain⟨cf,hu,ZJ⟩:=bg.at (i:=k) (b:=x.body) (by rw[j5,f];rfl);obtain⟨g,o,c',hq,D⟩:=rO bf (λ_ _=>rfl) f hu;rw[bu]at hq;injection hq with e1 e2 e3
  subst e1;subst e3;have cm:jd (∀j y,c.wel[j]?=jb y->w.cell? ⟨g,o+j*3,jc⟩=jb (T A y.dev)):=O (λj y K=>by
   obtain⟨u2,M,-⟩:=bg.at (i:=j) (b:=y.body) (by rw[j5,K];rfl);obtain⟨g2,o2,c2,s,bo⟩:=rO bf (λ_ _=>rfl) K M;rw[bu]at s;injection s with a cn cq
   injection a with a
   injection a with bq bB
   subst bq;subst bB;exact bo 0 _ I)
  obtain⟨U,V,rfl⟩:=ZJ.form;have a1:=bK x (jX f);have YX:=O f;have Yt:=O U3;obtain⟨m,hm⟩:=J x.body.length;have HM:=O hm;obtain⟨M,F,xb⟩:=x;dsimp only at a1 hm D;rw[<-hm]at a1 D;have d0:wr.cell? ⟨g,o+k*3,jc⟩=jb (T A M):=aB (D 0 _ I) z;have d1:wr.cell? ⟨g,o+k*3+1,jc⟩=jb (T A F):=aB (D 1 _ I) z;have d2:wr.cell? ⟨g,o+k*3+2,jc⟩=jb (jg U m V):=aB (D 2 _ I) z;have a2:=O (El F U m V a1);obtain⟨u,t⟩:=J (lF F m);rw[<-t]at a2;have TI:=O t;have al:=O (zx M);obtain⟨dv,a3⟩:=J (decide (dH M));rw[<-a3]at al;have bo:=O a3;clear D bf bg hu ZJ f U3 e2 hm t a1 a3
  go_upto_region 18 with fail
  obtain⟨y1,WA⟩:=J wr;have X:jd (y1.heap[b]?=jb (jf ad 63 (0,0))):=by rw[WA];exact HK
  have H:jd (ji w w y1):=by rw[WA];exact z
  rw[<-WA]at d0 d1 d2⊢;clear WA HK z;have d:=ai y1 (jf #[T A M,T A F,jg U m V] 104);have RJ:=jw y1 (jf #[T A M,T A F,jg U m V] 104);obtain⟨y2,f⟩:=J (y1.alloc (jf #[T A M,T A F,jg U m V] 104));rw[<-f]at d RJ⊢;obtain⟨E,hg⟩:=J y1.heap.size;rw[<-hg]at RJ⊢;have cj:=O hg;have W:=Z X d;have S:=ac H d;clear X H;have B:=O RJ;clear RJ f d hg;clear d0 d1 d2
  cases dv with
  |false=>
   obtain rfl:r=220:=by rw[C];exact eO λh=>by have h2:=(h.wel _ (jX YX)).1;have h3:=bo.out;rw[jO h2]at h3;cases h3
   refine lw ?_;refine bY (λs=>s.heap[E]?=jb (jf #[T A M,T A F,jg U m V] 104 (0,0))/\s.heap[b]?=jb (jf ad 63 (0,0))) (.t 0 (.t 1 (.o 2 (.t 3 (.t 4 (.t 5 (.t 6 (.t 7 (.t 8 (.t 9 (.t 10 (.t 11 (.t 12 (.t 13 (.t 14 (.t 15 (.t 16 (.t 17 (.t 18 (.t 19 (.t 20 (.t 21 (.t 22 (.o 23 (.t 24 (.t 25 .done)))))))))))))))))))))))))) ag ag ag G (λ_ _ _ _ h=>h) ⟨B,W⟩ ?_;obtain⟨z0,RQ⟩:=J y2.drew;have d:=bz y2;rw[<-RQ]at d⊢;have Tc:=Z B d;have Q:=Z W d;have R:=ac S d;clear d RQ B W S;refine aL ?_
   (refine aE (v:=?_) I aj (λs a=>?_) ?_;rotate_left;(have b0:=ae (i:=0) a.1 I;have b1:=ae (i:=1) a.1 I;have b2:=ae (i:=2) a.1 I;have f6:=ae a.2 aa;go_simp;with_reducible rfl);refine L ?_)
   refine ar I (λK' t=>?_);go_simp;refine(al _).mono ?_;rintro e _ ⟨rfl,rfl⟩;refine t _ _ ⟨Tc,Q⟩ λ_=>?_
   clear t;refine L ?_;iterate 2 refine aL ?_
   iterate 14 refine ik ?_
   iterate 2 refine aL ?_
   iterate 2 refine ik ?_
   refine ar I (λK' t=>?_);rw[jy (q9.1 aj)];refine t _ _ ⟨Tc,Q⟩ λ_=>?_
   clear t;refine L ?_;refine ik ?_;refine aL ?_;refine j4 ?_
   go_wp2_with fail
   go_ret;exact⟨I,R⟩
  |true=>
  by_cases YA:k=0
  ·have cn:=ap ((0:N)<(k:N))
   have cq:=ap (0<k);have a1:=O YA;clear YA;refine lw ?_;refine bY (λs=>s.heap[E]?=jb (jf #[T A M,T A F,jg U m V] 104 (0,0))/\s.heap[b]?=jb (jf ad 63 (0,0))) (.t 0 (.t 1 (.o 2 (.t 3 (.t 4 (.t 5 (.t 6 (.t 7 (.t 8 (.t 9 (.t 10 (.t 11 (.t 12 (.t 13 (.t 14 (.t 15 (.t 16 (.t 17 (.t 18 (.t 19 (.t 20 (.t 21 (.t 22 (.o 23 (.t 24 (.t 25 .done)))))))))))))))))))))))))) ag ag ag G (λ_ _ _ _ h=>h) ⟨B,W⟩ ?_;obtain⟨z0,RQ⟩:=J y2.drew;have d:=bz y2;rw[<-RQ]at d⊢;have Tc:=Z B d;have Q:=Z W d;have R:=ac S d;clear d RQ B W S;refine aL ?_
   (refine aE (v:=?_) I aj (λs a=>?_) ?_;rotate_left;(have b0:=ae (i:=0) a.1 I;have b1:=ae (i:=1) a.1 I;have b2:=ae (i:=2) a.1 I;have f6:=ae a.2 aa;go_simp;with_reducible rfl);refine L ?_)
   refine ar I (λK' t=>?_);go_simp;refine(al _).mono ?_;rintro e _ ⟨rfl,rfl⟩;refine t _ _ ⟨Tc,Q⟩ λ_=>?_
   clear t;refine L ?_;iterate 5 refine aL ?_
   iterate 10 refine ik ?_
   iterate 4 refine aL ?_
   (refine aE (v:=?_) I aj (λs a=>?_) ?_;rotate_left;(have b0:=ae (i:=0) a.1 I;have b1:=ae (i:=1) a.1 I;have b2:=ae (i:=2) a.1 I;have f6:=ae a.2 aa;go_simp;with_reducible rfl);refine L ?_)
   refine ar I (λK' t=>?_);rw[ju aj];go_simp;refine(a2 z0).mono ?_;rintro e z1 ⟨rfl,d⟩;have UI:=Z Tc d;have X:=Z Q d;have H:=ac R d;clear Tc Q R;clear d;refine t _ _ ⟨UI,X⟩ λ_=>?_
   clear t;refine L ?_;iterate 2 refine aL ?_
   refine j4 ?_;clear a2
   by_cases n:u=0
   ·have a4:(u !=0)=jj:=ah n
    have a5:(u==0)=jm:=ah n;have bq:jd (s8 ⟨M,F,xb⟩):=O ⟨oj bo.symm,by rw[<-HM];exact oN.1 (TI.symm.trans n)⟩;have ba:jd (kI (c.wel.take (k+1))):=O (by rw[Yt];exact bk.snoc bq (by exact .inl (by rw[a1];rfl)));clear n
    go_wp2_with fail
    exact⟨⟨k+1,by go_num,by omega,ba,X,H⟩,by simp only[js];omega⟩
   have a4:(u !=0)=jm:=ah n;have a5:(u==0)=jj:=ah n;obtain rfl:r=220:=by rw[C];exact eO λh=>n (by rw[TI,HM];exact oN.2 (h.wel _ (jX YX)).2)
   clear n
   go_wp2_with fail
   go_ret;exact⟨I,H⟩
  have cn:=ao ((0:N)<(k:N));have cq:=ao (0<k);obtain⟨j,hj⟩:=J (k-1);have a1:k=j+1:=Y;have cx:xU.wrap ((k:N)-1)=(j:N):=by rw[a1,show(((j+1:ja):N)-1)=(j:N) by omega];exact IntWalk.i64_in _ Y
  have WQ:=ao ((j:N)<(P:N));have cy:=ao (j<P);have cz:decide ((0:N)<=(j:N))=jm:=by simp
  have cA:j<P:=Y;obtain⟨y,K⟩:∃y,c.wel[j]?=jb y:=⟨_,lm (by rw[<-YK];omega)⟩;obtain⟨pd,bg⟩:=J y.dev;have TQ:jd (y2.cell? ⟨g,o+j*3,jc⟩=jb (T A pd)):=O (by rw[bg];exact aB (cm j y K) S);have HY:=O K;have bB:=O bg;have bf:=O a1;clear YA hj a1 K bg
  by_cases bg:M<=pd
  ·have cs:decide (M<=pd)=jm:=ah bg
   obtain rfl:r=220:=by
    rw[C];refine eO λh=>?_
    have h2:=h.inc k (aA bf) (by rw[<-YK];exact bd);rw[show k-1=j by have:=bf.out;omega]at h2;rw[show(c.wel.map Wl.dev).getD j 0=pd by rw[bB];simp[jQ,HY.out],show(c.wel.map Wl.dev).getD k 0=M by simp[jQ,YX.out]]at h2;omega
   clear bg;refine lw ?_;refine bY (λs=>s.heap[E]?=jb (jf #[T A M,T A F,jg U m V] 104 (0,0))/\s.heap[b]?=jb (jf ad 63 (0,0))/\s.cell? ⟨g,o+j*3,jc⟩=jb (T A pd)) (.t 0 (.t 1 (.o 2 (.t 3 (.t 4 (.t 5 (.t 6 (.t 7 (.t 8 (.t 9 (.t 10 (.t 11 (.t 12 (.t 13 (.t 14 (.t 15 (.t 16 (.t 17 (.t 18 (.t 19 (.t 20 (.t 21 (.t 22 (.o 23 (.t 24 (.t 25 .done)))))))))))))))))))))))))) ag ag ag G (λ_ _ _ _ h=>h) ⟨B,W,TQ⟩ ?_;obtain⟨z0,RQ⟩:=J y2.drew;have d:=bz y2;rw[<-RQ]at d⊢;have Tc:=Z B d;have Q:=Z W d;have R:=ac S d;have a1:=O (aB TQ d);clear d RQ B W S TQ;refine aL ?_
   (refine aE (v:=?_) I aj (λs a=>?_) ?_;rotate_left;(have b0:=ae (i:=0) a.1 I;have b1:=ae (i:=1) a.1 I;have b2:=ae (i:=2) a.1 I;have f6:=ae a.2.1 aa;have p0:=a.2.2;go_simp;with_reducible rfl);refine L ?_)
   refine ar I (λK' t=>?_);go_simp;refine(al _).mono ?_;rintro e _ ⟨rfl,rfl⟩;refine t _ _ ⟨Tc,Q,a1⟩ λ_=>?_
   clear t;refine L ?_;iterate 6 refine aL ?_
   (refine aE (v:=?_) I aj (λs a=>?_) ?_;rotate_left;(have b0:=ae (i:=0) a.1 I;have b1:=ae (i:=1) a.1 I;have b2:=ae (i:=2) a.1 I;have f6:=ae a.2.1 aa;have p0:=a.2.2;go_simp;with_reducible rfl);refine L ?_)
   iterate 4 refine aL ?_
   (refine aE (v:=?_) I aj (λs a=>?_) ?_;rotate_left;(have b0:=ae (i:=0) a.1 I;have b1:=ae (i:=1) a.1 I;have b2:=ae (i:=2) a.1 I;have f6:=ae a.2.1 aa;have p0:=a.2.2;go_simp;with_reducible rfl);refine L ?_)
   refine aL ?_
   (refine aE (v:=?_) I aj (λs a=>?_) ?_;rotate_left;(have b0:=ae (i:=0) a.1 I;have b1:=ae (i:=1) a.1 I;have b2:=ae (i:=2) a.1 I;have f6:=ae a.2.1 aa;have p0:=a.2.2;go_simp;with_reducible rfl);refine L ?_)
   iterate 4 refine aL ?_
   iterate 2 refine ik ?_
   refine ar I (λK' t=>?_);rw[jy (q9.1 aj)];refine t _ _ ⟨Tc,Q,a1⟩ λ_=>?_
   clear t;refine L ?_;refine ik ?_;refine aL ?_;refine j4 ?_
   go_wp2_with fail
   go_ret;exact⟨I,R⟩
  have cs:decide (M<=pd)=jj:=ah bg;have ct:jd (pd<M):=O Y;clear bg;refine lw ?_;refine bY (λs=>s.heap[E]?=jb (jf #[T A M,T A F,jg U m V] 104 (0,0))/\s.heap[b]?=jb (jf ad 63 (0,0))/\s.cell? ⟨g,o+j*3,jc⟩=jb (T A pd)) (.t 0 (.t 1 (.o 2 (.t 3 (.t 4 (.t 5 (.t 6 (.t 7 (.t 8 (.t 9 (.t 10 (.t 11 (.t 12 (.t 13 (.t 14 (.t 15 (.t 16 (.t 17 (.t 18 (.t 19 (.t 20 (.t 21 (.t 22 (.o 23 (.t 24 (.t 25 .done)))))))))))))))))))))))))) ag ag ag G (λ_ _ _ _ h=>h) ⟨B,W,TQ⟩ ?_;obtain⟨z0,RQ⟩:=J y2.drew;have d:=bz y2;rw[<-RQ]at d⊢;have Tc:=Z B d;have Q:=Z W d;have R:=ac S d;have a1:=O (aB TQ d);clear d RQ B W S TQ;refine aL ?_
  (refine aE (v:=?_) I aj (λs a=>?_) ?_;rotate_left;(have b0:=ae (i:=0) a.1 I;have b1:=ae (i:=1) a.1 I;have b2:=ae (i:=2) a.1 I;have f6:=ae a.2.1 aa;have p0:=a.2.2;go_simp;with_reducible rfl);refine L ?_)
  refine ar I (λK' t=>?_);go_simp;refine(al _).mono ?_;rintro e _ ⟨rfl,rfl⟩;refine t _ _ ⟨Tc,Q,a1⟩ λ_=>?_
  clear t;refine L ?_;iterate 6 refine aL ?_
  (refine aE (v:=?_) I aj (λs a=>?_) ?_;rotate_left;(have b0:=ae (i:=0) a.1 I;have b1:=ae (i:=1) a.1 I;have b2:=ae (i:=2) a.1 I;have f6:=ae a.2.1 aa;have p0:=a.2.2;go_simp;with_reducible rfl);refine L ?_)
  iterate 4 refine aL ?_
  (refine aE (v:=?_) I aj (λs a=>?_) ?_;rotate_left;(have b0:=ae (i:=0) a.1 I;have b1:=ae (i:=1) a.1 I;have b2:=ae (i:=2) a.1 I;have f6:=ae a.2.1 aa;have p0:=a.2.2;go_simp;with_reducible rfl);refine L ?_)
  refine aL ?_
  (refine aE (v:=?_) I aj (λs a=>?_) ?_;rotate_left;(have b0:=ae (i:=0) a.1 I;have b1:=ae (i:=1) a.1 I;have b2:=ae (i:=2) a.1 I;have f6:=ae a.2.1 aa;have p0:=a.2.2;go_simp;with_reducible rfl);refine L ?_)
  iterate 5 refine aL ?_
  (refine aE (v:=?_) I aj (λs a=>?_) ?_;rotate_left;(have b0:=ae (i:=0) a.1 I;have b1:=ae (i:=1) a.1 I;have b2:=ae (i:=2) a.1 I;have f6:=ae a.2.1 aa;have p0:=a.2.2;go_simp;with_reducible rfl);refine L ?_)
  refine ar I (λK' t=>?_);rw[ju aj];go_simp;refine(a2 z0).mono ?_;rintro e z1 ⟨rfl,d⟩;have UI:=Z Tc d;have X:=Z Q d;have H:=ac R d;have a:=O (aB a1 d);clear Tc Q R a1;clear d;refine t _ _ ⟨UI,X,a⟩ λ_=>?_
  clear t;refine L ?_;iterate 2 refine aL ?_
  refine j4 ?_;clear a2
  by_cases n:u=0
  ·have a4:(u !=0)=jj:=ah n
   have a5:(u==0)=jm:=ah n;have bq:jd (s8 ⟨M,F,xb⟩):=O ⟨oj bo.symm,by rw[<-HM];exact oN.1 (TI.symm.trans n)⟩;have ba:jd (kI (c.wel.take (k+1))):=O (by rw[Yt];exact bk.snoc bq (by exact .inr ⟨y,by rw[j6,ol (by rw[<-YK];omega),show k-1=j by have:=bf.out;omega,yl (aA bf)];exact HY,by rw[<-bB];exact ct⟩));clear n
   go_wp2_with fail
   exact⟨⟨k+1,by go_num,by omega,ba,X,H⟩,by simp only[js];omega⟩
  have a4:(u !=0)=jm:=ah n;have a5:(u==0)=jj:=ah n;obtain rfl:r=220:=by rw[C];exact eO λh=>n (by rw[TI,HM];exact oN.2 (h.wel _ (jX YX)).2)
  clear n
  go_wp2_with fail
  go_ret;exact⟨I,H⟩
 have bm:=ap ((k:N)<(P:N));have bn:=ap (k<P);obtain rfl:k=P:=Y;have a:jd (kI c.wel):=O (by have h:=bk.out;rw[jV (by rw[<-YK];exact jt _)]at h;exact h);have g:jd (fK c):=O ⟨by rw[<-br];exact oj bv.symm,by rw[<-Uy];have:=UI.out;have:=B.out;omega,by rw[<-bs];exact oj bw.symm,
  nB.1 bA.symm,bh.symm,by rw[<-Yz];exact bb,by rw[<-YK];exact bc,λp i=>by
   obtain⟨j,hj,rfl⟩:=qe i;have h:=ce j (by rw[bh];exact hj);rw[eE _ hj]at h;exact h,ck,a.each,a.inc⟩
 obtain rfl:r=0:=by rw[C];exact sR g
 clear bk
 go_wp2_with fail
 go_ret;exact⟨I,z⟩
end Go.Proofs.YtdjkajodkjfjlaaGreatDoor
