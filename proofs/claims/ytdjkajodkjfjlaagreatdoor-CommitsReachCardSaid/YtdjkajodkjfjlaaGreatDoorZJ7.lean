/- Contracts of functions that the law reaches, part 7 of 7; no condition. -/
import Derived.Test.YtdjkajodkjfjlaaGreatDoorZJ6
namespace Go.Proofs.YtdjkajodkjfjlaaGreatDoor
set_option maxHeartbeats 64000000
set_option maxRecDepth 100000
set_option linter.unusedVariables false
set_option linter.unusedSimpArgs false
set_option linter.unusedSectionVars false
open Go.RowKit
open Go.Proofs.Tryz
open _root_ renaming rfl->I,Nat->jk,Int->jl,List->jn,absurd->js,Array->ju,if_pos->jA,Bool->jD,if_neg->jG,Option->jW,congrArg->jX,decide_eq_true->qi
open Go.Value renaming int->N
open Go.IntKind renaming i64->T
open Go.RowKit renaming Hid->A,Below->jr
open _root_.Option renaming some->ja,none->jc,bind_some->jH,map_some->lr
open Go.Value renaming slice->jb,agg->jf,pointer->jB,tuple->jC,string->jR
open Go.Obj renaming cells->jd
open Go renaming undef->je,World->jj,Value->jo,wpList_plain->jt,Calls->jz,wp_store_row->jE,wp_region_lit->jI,setRow_heap->jJ,below_setRow->jK,execOp->jM,setRow_other->jO,Oper->jQ,wp_region_noPanic->jY,bodyPost->jZ,bodyPost_ret_by->j0,TypeId->j6,wpList_load_row->kw,wpOp_step->lm,Program->mb,wpS_region->n0,leaves_cons->oi,wp_store_mid->qh
open Go.Value renaming int->jg,oneCell'->kl,slice->pz
open _root_.Bool renaming true->jh,false->jp,and_eq_true->j5,or_eq_true->qs,eq_false_iff->qv
open Go.IntKind renaming u8->ji
open Go.Proofs.Tryz renaming prog->jm
open _root_.Nat renaming lt_of_lt_of_le->jq,le_refl->jw,le_trans->jS,le_of_eq->jU,lt_irrefl->qg
open Go.Ending renaming returned->jv
open _root_.Array renaming getElem?_eq_some_iff->jy,replicate->j7,all_eq_true_iff_forall_mem->qc
open Go.Proofs.Tryz renaming underlying29->jF,underlying63->jT,underlying64->qj,underlying23->qk
open Go.World renaming alloc_heap_new->jL,size_alloc->j4,setRow->m0,ownsRow_nil->qm
open _root_.List renaming length_map->jN,mem_cons->jP,length_append->j1,size_toArray->j3,map_append->j8,length->j9,nodup_cons->km,not_mem_nil->kn,map_nil->lo,replicate->lw,getElem?_eq_getElem->ms,nil_append->mz,cons_append->mF,map_cons->mT,getD->nn,flatMap_cons->nz,length_cons->oj,append_assoc->ol,setIfInBounds_toArray->oo,set_cons_succ->ow,set_cons_zero->o4,append_nil->pa,flatMap_nil->p6,getElem?_eq_some_iff->qa,length_filter_le->qb,mem_toArray->qd,mem_append->qe,mem_nil_iff->qf,mem_cons_self->ql,getElem?_map->qn,all_eq_true->qo,filter_cons_of_pos->qt,tail_drop->qu
open Go.NoPanic renaming normal->jV
variable{r:(jl×af)×jn Val}{b:Act}{d:aD}{o:jQ}{w x:jj}{C R:jk}{D:jk->Prop}{f:jl}{t:jn (jl×jl)}{a:jn Val}{h:jn jo}{i:jo}{c:ju jo}
section
attribute [local go_sem] Oper.semAt_some
def bF(l:jn Val):Prop:=∃f,(∀x∈l,aU f x)/\(encs l).length<=1000000
theorem bF.len(h:bF a):a.length<=1000000:=by
 obtain⟨f,-,l⟩:=h;have:=po a;omega
theorem bF.tail{j:Val}(h:bF (j::a)):bF a:=by
 obtain⟨f,l,b⟩:=h;rw[encs,j1]at b;exact⟨f,λy c=>l y (List.mem_cons_of_mem _ c),by omega⟩
theorem bF.mem{x:Val}{l:jn Val}(h:bF l)(d:x∈l):bF x.l:=by
 obtain⟨f,i,o⟩:=h;have c:=i x d;have j:=wV d;obtain⟨k,n,s,a⟩:=x
 by_cases hk:k=3
 ·subst hk
  obtain⟨g,-,e,-,b⟩:=pj c I;refine⟨g,b,?_⟩;have m:enc (.mk 3 n s a)=3#8::(bV a.length++encs a):=by rw[enc,jG G,jG G]
  rw[m,oj,j1]at j;show(encs a).length<=_;omega
 have e:a=[]:=by
  cases f<;>rw[aU]at c<;>rcases c with⟨-,-,-,-,b⟩|⟨-,-,-,b⟩|⟨b,-⟩<;>first|exact b|exact js b hk
 subst e;exact⟨0,(λy b=>by cases b),by show(encs []).length<=_;simp[encs]⟩
theorem Am{r:jl×jn Val}(h:rI a=ja r):∃x,a=x::r.2:=by
 unfold rI at h;obtain⟨q,l,b⟩:=fL h;rw[<-b];exact⟨q.1,(lS l).1⟩
theorem Bt{r:ByteArray×jn Val}(h:rT a=ja r):∃x,a=x::r.2:=by
 unfold rT at h;obtain⟨q,l,b⟩:=fL h;rw[<-b];exact⟨q.1,(lS l).1⟩
theorem Mn{r:jn Val×jn Val}(h:rL a=ja r):∃x,a=x::r.2/\x.l=r.1:=by
 unfold rL at h;obtain⟨q,l,b⟩:=fL h;rw[<-b];exact⟨q.1,(lS l).1,I⟩
theorem uZ{r:af×jn Val}(h:rD a=ja r):(∃x,a=x::r.2)/\r.1.length=32:=by
 unfold rD at h;obtain⟨q,b,l⟩:=dt h
 split at l
 ·injection l with l
  rw[<-l];exact⟨Bt b,by rw[eW];assumption⟩
 cases l
theorem Kr(h:rW a=ja r):∃x y,a=x::y::r.2:=by
 unfold rW at h;obtain⟨q,l,b⟩:=dt h;obtain⟨p,c,d⟩:=fL b;obtain⟨x,e⟩:=Am l;obtain⟨y,f⟩:=Bt c;rw[<-d];exact⟨x,y,by rw[e,f]⟩
theorem bF.rI{l:jn Val}{r:jl×jn Val}(h:bF l)(e:Go.Proofs.YtdjkajodkjfjlaaGreatDoor.rI l=ja r):bF r.2:=by obtain⟨x,rfl⟩:=Am e;exact h.tail
theorem bF.rD{l:jn Val}{r:af×jn Val}(h:bF l)(e:Go.Proofs.YtdjkajodkjfjlaaGreatDoor.rD l=ja r):bF r.2:=by obtain⟨x,rfl⟩:=(uZ e).1;exact h.tail
theorem bF.rL{l:jn Val}{r:jn Val×jn Val}(h:bF l)(e:Go.Proofs.YtdjkajodkjfjlaaGreatDoor.rL l=ja r):bF r.1/\bF r.2:=by
 obtain⟨x,rfl,a⟩:=Mn e;exact⟨by rw[<-a];exact h.mem (ql ..),h.tail⟩
theorem bF.rW{l:jn Val}(h:bF l)(e:Go.Proofs.YtdjkajodkjfjlaaGreatDoor.rW l=ja r):bF r.2:=by obtain⟨x,y,rfl⟩:=Kr e;exact h.tail.tail
theorem bF.suffix{l b:jn Val}(h:bF a)(e:a=l++b):bF b:=by
 obtain⟨f,c,d⟩:=h;rw[e,rf,j1]at d;exact⟨f,λx g=>c x (by rw[e];exact List.mem_append_right _ g),by omega⟩
def rB(w:jj)(o:jW aD)(e:Ending)(w':jj):Prop:=
 jr w w w'/\match o with
  |some c=>∃q,e=jv (jf (av c q).toArray)/\aF (λg=>w.heap.size<=g/\g<w'.heap.size) w' c q
  |none=>e=.panicked b9
structure Kp(C R:jk)(a b:jj):Prop where
 os:b.os=a.os
 tape:b.tape=a.tape
 output:b.output=a.output
 size:a.heap.size<=b.heap.size
 block:∀k,k<a.heap.size->k≠C->k≠R->b.heap[k]?=a.heap[k]?
theorem Kp.ofR(h:aM R w.heap.size w x):Kp C R w x:=⟨h.os,h.tape,h.output,h.size,λk hk _ c=>h.block k hk c⟩
theorem Kp.ofC(h:aM C w.heap.size w x):Kp C R w x:=⟨h.os,h.tape,h.output,h.size,λk hk c _=>h.block k hk c⟩
theorem Kp.ofB(h:jr w w x):Kp C R w x:=⟨h.os,h.tape,h.output,h.size,λk hk _ _=>h.block k hk⟩
def gW(C R:jk)(c:jj->Prop):Prop:=∀a b,c a->Kp C R a b->c b
theorem Lz(d:w.heap.size<=C)(e:w.heap.size<=R):gW C R (λx=>jr w w x):=
 λa b h k=>h.trans ⟨k.os,k.tape,k.output,k.size,λi c=>k.block i (jq c h.size) Y Y⟩
theorem zC{M:jk}{ds:jW (jn Deferred)}(c:M≠C)(d:M≠R):gW C R (λx=>x.heap[M]?=ja (.deferred ds)):=
 λa b h k=>(k.block M (jy.1 h).1 c d).trans h
theorem Af{M H:jk}{sz n:jk}(c:C<M)(d:R<M):gW C R (λx=>H<=x.heap.size/\ay (λg=>M<=g/\g<H) x i sz n h):=
 λa b xs k=>⟨jS xs.1 k.size,xs.2.keep λg e=>k.block g Y Y Y⟩
theorem BK{α:Type}{M H:jk}{sz n:jk}{f:α->jo->jn jo}{body:α->af}{l:jn α}(v:C<M)(j:R<M):gW C R (λx=>H<=x.heap.size/\∃c,ay (λg=>M<=g/\g<H) x i sz n (dm f l c)/\cD (λg=>M<=g/\g<H) x (l.map body) c):=by
 rintro a b ⟨h,c,d,e⟩ k;have hk:∀g,(M<=g/\g<H)->b.heap[g]?=a.heap[g]?:=λg m=>k.block g Y Y Y
 exact⟨jS h k.size,c,d.keep hk,e.keep hk⟩
theorem gW.and{c d:jj->Prop}(h:gW C R c)(f:gW C R d):gW C R (λx=>c x/\d x):=λa b e k=>⟨h a b e.1 k,f a b e.2 k⟩
theorem gj{Ds:jn jk}{tmps:ju jo}{ov:jW aD}{fd:Func}(d:ov=jc)(e:jr w w x)(f:Ds.Nodup)(c:∀D∈Ds,x.heap[D]?=ja (.deferred (ja []))/\w.heap.size<=D):
 LeavesInM Fence.wide 0 jm fd tmps (rB w ov) (wR Ds) (.panicking b9) x:=by
 subst d;refine wm (λh=>by cases h) Ds x f (λD b=>(c D b).1) (λg a=>?_);exact⟨e.trans ⟨a.os,a.tape,a.output,jU a.size.symm,λk hk=>a.block k (λb=>by have:=(c k b).2;omega)⟩,I⟩
theorem ay.cellsOnly(xs:ay D w i C R h)(j:0<C):ay (λg=>D g/\∃c t f,w.heap[g]?=ja (jd c t f)) w i C R h:=by
 obtain⟨b,p,c,k,l,m,q⟩:=xs;refine⟨b,p,c,k,l,m,λd=>?_⟩;obtain⟨g,o,e,r,v⟩:=q d;refine⟨g,o,e,⟨r,?_⟩,v⟩;have s:0<h.length:=by rw[b];exact Nat.mul_pos d j
 have a:=v 0 h[0] (ms s);unfold World.cell? at a
 cases ho:w.heap[g]? with
 |none=>simp[ho]at a
 |some u=>
  cases u with
  |cells c t f=>exact⟨c,t,f,I⟩
  |_=>simp[ho]at a
theorem cD.cellsOnly:∀{d:jn (af)} {a:jn jo},cD D w d a->cD (λg=>D g/\∃c t f,w.heap[g]?=ja (jd c t f)) w d a
 |[],a,h=>h
 |b::d,a,⟨c,e,f,g,i⟩=>⟨c,e,f,g.cellsOnly G,i.cellsOnly⟩
theorem aF.cellsOnly{e:CQ}(h:aF D w d e):aF (λg=>D g/\∃d t f,w.heap[g]?=ja (jd d t f)) w d e:=by
 obtain⟨a,b,⟨c,q,f⟩,⟨g,i,j⟩,k,l⟩:=h;exact⟨a.cellsOnly G,b.cellsOnly G,⟨c,q.cellsOnly G,f.cellsOnly⟩,⟨g,i.cellsOnly G,j.cellsOnly⟩,k,l⟩
theorem IJ{C:jk}{Ds:jn jk}{tmps:ju jo}{ov:jW aD}{c:aD}{q:CQ}(l:ov=ja c)(m:jr w w x)(n:Ds.Nodup)(e:∀D∈Ds,x.heap[D]?=ja (.deferred (ja []))/\w.heap.size<=D)
 (j:x.heap[C]?=ja (jd (av c q).toArray 63 (0,0))) (o:tmps.getD 2 je=jB (ja ⟨C,0,jc⟩)) (i:aF (λg=>w.heap.size<=g/\g<x.heap.size) x c q):
 LeavesInM Fence.wide 0 jm Tryz.f73 tmps (rB w ov) (wR Ds) .returning x:=by
 subst l;refine wm (λh=>by cases h) Ds x n (λD d=>(e D d).1) (λb a=>?_);have h:∀g,(∃c t f,x.heap[g]?=ja (jd c t f))->g∉Ds:=λg ⟨c,t,f,b⟩ d=>by rw[(e g d).1]at b;cases b
 have p:=(a.block C (h C ⟨_,_,_,j⟩)).trans j;refine⟨_,results_cell_row I _ _ C 63 _ (0,0) _ o p jT I (by rw[gK c q i.plen i.clen];exact fN),?_,q,I,?_⟩
 ·exact m.trans ⟨a.os,a.tape,a.output,jU a.size.symm,λk hk=>a.block k (λd=>by have:=(e k d).2;omega)⟩
 exact(i.cellsOnly.keep λg b=>a.block g (h g b.2)).mono λg b=>⟨b.1.1,by rw[a.size];exact b.1.2⟩
def Pp(b:Exit->Act->jj->Prop):Exit->Act->jj->Prop
 | .normal,a,w=>b .normal a w
 | .panic c,a,w=>∀t,b (.panic c) {a with tmps:=t} w
 |_,_,_=>False
theorem IF{P:mb}{a:ju jQ}{i:Exit->Act->jj->Prop}{C:jk}{b:Act}{w:jj}(S:jj->Prop)(f:jk)(l:jn (jk×jD))(j:P.follows .mixedOrders=jh)(k:Region.noSelect a=jh)
 (hk:iF .any a f l (j7 a.size jp)=jh) (m:l.length=a.size) (n:S w.drew) (h:fE P a (Pp i) S f l b w.drew):(Code.region C a jh).wp P i b w:=by
 refine wp_mono (wX S f l j k hk m (λc b d v w h t=>?_) n h) (λe b w h=>?_)
 ·have c:=h t
  have e:({(Act.put b d v)with tmps:=t}:Act)={b with tmps:=t}:=by rw[Act.mk.injEq];exact⟨I,put_defers b d v⟩
  rwa [e]at c
 cases e with
 |normal=>exact h
 |panic c=>exact h b.tmps
 |ret=>exact h.elim
 |exit C=>exact h.elim
 |goto C=>exact h.elim
 |outgrown=>exact h.elim
theorem rh(R n i:jk)(v:jo)(W:jj):aM R n W (W.setCell ⟨R,i,jc⟩ v):=⟨I,I,I,jU (ta _ _ _).symm,λk _ a=>oJ _ a⟩
theorem zH{P:mb}{fn:FuncId}{c:Code}{b:Exit->Act->jj->Prop}{a:Act}{w':jj}(e:w'=w)(h:WpF P fn c b a w'):WpF P fn c b a w:=e▸h
theorem OA(v:Val)(ev:jo)(w:jj)(c:aw (·<w.heap.size) w v ev)(e:bF v.l):
 jz jm 73 #[jf #[N T v.k,N T v.n,jR v.s,ev]] w (rB w (ie v)):=by
 have fo:∀(fn:Fn) (first ed:ju jo) (w:jj),(Instr.makeFunc fn first ed).run jm w=.ok (.func fn first ed) w:=λ_ _ _ _=>rfl
 obtain⟨pu,cu,rfl⟩:=c.form;obtain⟨ov,d⟩:=J (ie v);rw[<-d];unfold ie at d;obtain⟨xk,xn,xs,l⟩:=v;have f:ov=(rI l).bind λa=>(rI a.2).bind λb=>(rD b.2).bind λp=>(rI p.2).bind λau=>(rL au.2).bind λch=>(cB iG ch.1).bind λe9=>
  (rL ch.2).bind λg=>(dl g.1).bind λm=>(rL g.2).bind λh=>(cB rBx h.1).bind λbox=>(rL h.2).bind λj=>(cB rWl j.1).bind λwel=>
  (rD j.2).bind λk=>(rI k.2).bind λr=>(rI r.2).map λs=>(⟨a.1,b.1,p.1,au.1,e9,m,box,wel,k.1,r.1,s.1⟩:aD):=d
 have g:bF l:=e;have a4:aw (·<w.heap.size) w (vL l) (jb pu l.length cu):=by
  rw[aw]at c;unfold vL;rw[aw];exact c
 show jz jm 73 #[jf #[N T xk,N T xn,jR xs,jb pu l.length cu]] w (rB w ov);have j:=O f;have t:=O g;have ZI:=O a4;clear d f e g c a4;obtain⟨nl,c⟩:=J l.length;rw[<-c]at ZI⊢;have D:=O c;clear c;obtain⟨x0,d⟩:=J (((w.alloc (jd #[N T xk,N T xn,jR xs,jb pu nl cu] 128)).alloc (jd (av eR fX).toArray 63)));obtain⟨f,g⟩:=J w.heap.size;have e:=jL w (jd #[N T xk,N T xn,jR xs,jb pu nl cu] 128);have n:=ai w (jd #[N T xk,N T xn,jR xs,jb pu nl cu] 128);have h:=jL (w.alloc (jd #[N T xk,N T xn,jR xs,jb pu nl cu] 128)) (jd (av eR fX).toArray 63);have c:=ai (w.alloc (jd #[N T xk,N T xn,jR xs,jb pu nl cu] 128)) (jd (av eR fX).toArray 63);replace e:=az e c;rw[j4]at h;have o:=(n).trans (c.mono (n).size);rw[<-d]at o;rw[<-d,<-g]at e;rw[<-d,<-g]at h;have y:=O e;have z:=O h;have k:=O o;have q:=O d;have m:=O g;clear o d g e n h c;have B:A (aw (·<w.heap.size) x0 (vL l) (jb pu nl cu)):=O (aw.keep (λg hg=>k.block g hg) _ _ ZI.out);have c:=ai x0 (jd #[jb pu nl cu] 216);have e:=bj.new (N0:=w.heap.size) (l:=l) (x:=vL l) I B k.size;have h:x0.heap.size=f+2:=by rw[q,m];simp
 obtain⟨x1,d⟩:=J (x0.alloc (jd #[jb pu nl cu] 216));rw[<-d,h]at e;rw[<-d]at c;have n:w.heap.size=f:=m.symm;rw[n]at e;have Ys:=O n;have u:A (x1.heap[f+1]?=ja (jd (av eR fX).toArray 63 (0,0))):=Z z c;have F:=O e;have E:A (jr w w x1):=ac k c;have U:A (x1.heap.size=f+3):=O (by rw[d];simp[h]);have o:=O d;have c3:=ae (i:=3) y I;clear e c h d n ZI B D;refine GM func73 I ?_;simp only[ntmps73,j3,oj,List.length_nil,Nat.reduceAdd,Nat.reduceSub,Array.replicate_succ,Array.replicate_zero,List.push_toArray,List.append_toArray,mz,mF];refine gP λK0 ew=>iN ?_
 go_wp2_with fail
 refine zH (w':=x0) (q.trans I) ?_;rw[<-m];clear q m;refine gP λK0 ew=>iN ?_
 go_wp2_with fail
 clear c3;refine zH o ?_;have c:x0.heap.size=f+2:=by have:=U.out;rw[o]at this;simp at this;omega
 rw[c];clear c o y z k;refine gP λK0 ew=>iN ?_
 obtain⟨O0,Ua,H,m⟩:∃VK:jj->Prop,A (gW (f+1) (f+2) VK)/\A (∀x,VK x->jr w w x/\∀D∈([]:jn jk),x.heap[D]?=ja (.deferred (ja []))/\w.heap.size<=D)/\A (VK x1):=
  ⟨λx=>jr w w x,O (Lz (aA Ys) (aA Ys)),O (λx h=>⟨h,λD h=>by cases h⟩),E⟩
 have T9:A (([]:jn jk).Nodup):=O List.nodup_nil;clear E;have d:=t;clear t;have t:=O (fY (f) (f+2) Y l x1 F d.len);obtain⟨y,o⟩:=J (rI l);have E:=O (λr (h:y=ja r)=>d.rI (r:=r) (by rw[<-o];exact h));rw[<-o]at t j;clear o
 go_wp2_with fail
 refine t.mono ?_;rintro e x2 ⟨n,P⟩;have k:=O ((n.block (f+1) (jy.1 u).1 Y).trans u);have c:=O (Ua _ _ m.out (Kp.ofR n));clear n t m u F d
 rcases y with _|r
 ·obtain rfl:e=.panicked b9:=P
  have F:ov=jc:=j.out;exact gj (Ds:=[]) F (H _ c.out).1 T9 (H _ c.out).2
 obtain⟨va,la⟩:=r;obtain⟨rfl,z⟩:=P;have u:A (bj f x2 (f+2) la):=O z;have m:A (bF la):=O (E _ I);replace j:=j.out;rw[jH]at j;replace j:=O j;dsimp only at j;clear z E;have t:=O (fY (f) (f+2) Y la x2 u m.len);obtain⟨y,o⟩:=J (rI la);have E:=O (λr (h:y=ja r)=>m.rI (r:=r) (by rw[<-o];exact h));rw[<-o]at t j;clear o
 go_wp2_with fail
 refine t.mono ?_;rintro e x3 ⟨n,P⟩;have q:=O ((n.block (f+1) (jy.1 k).1 Y).trans k);have d:=O (Ua _ _ c.out (Kp.ofR n));clear n t c k u m
 rcases y with _|r
 ·obtain rfl:e=.panicked b9:=P
  have F:ov=jc:=j.out;exact gj (Ds:=[]) F (H _ d.out).1 T9 (H _ d.out).2
 obtain⟨vb,lb⟩:=r;obtain⟨rfl,z⟩:=P;have u:A (bj f x3 (f+2) lb):=O z;have k:A (bF lb):=O (E _ I);replace j:=j.out;rw[jH]at j;replace j:=O j;dsimp only at j;clear z E;have t:=O (CL (f) (f+2) Y lb x3 u k.len);obtain⟨y,o⟩:=J (rD lb);have E:=O (λr (h:y=ja r)=>k.rD (r:=r) (by rw[<-o];exact h));rw[<-o]at t j;have T4:A (∀r,y=ja r->r.1.length=32):=O (λr h=>(uZ (by rw[<-o];exact h)).2);clear o
 go_wp2_with fail
 refine t.mono ?_;rintro e x4 ⟨n,P⟩;have m:=O ((n.block (f+1) (jy.1 q).1 Y).trans q);have c:=O (Ua _ _ d.out (Kp.ofR n));clear n t d q u k
 rcases y with _|r
 ·obtain rfl:e=.panicked b9:=P
  have F:ov=jc:=j.out;exact gj (Ds:=[]) F (H _ c.out).1 T9 (H _ c.out).2
 obtain⟨vp,lp⟩:=r;obtain⟨rfl,z⟩:=P;have k:A (bj f x4 (f+2) lp):=O z;have d:A (bF lp):=O (E _ I);replace j:=j.out;rw[jH]at j;replace j:=O j;dsimp only at j;clear z E;have V:A (vp.length=32):=O (T4 _ I);clear T4;have t:=O (fY (f) (f+2) Y lp x4 k d.len);obtain⟨y,o⟩:=J (rI lp);have E:=O (λr (h:y=ja r)=>d.rI (r:=r) (by rw[<-o];exact h));rw[<-o]at t j;clear o
 go_wp2_with fail
 refine t.mono ?_;rintro e x5 ⟨n,P⟩;have W:=O ((n.block (f+1) (jy.1 m).1 Y).trans m);have u:=O (Ua _ _ c.out (Kp.ofR n));clear n t c m k d
 rcases y with _|r
 ·obtain rfl:e=.panicked b9:=P
  have F:ov=jc:=j.out;exact gj (Ds:=[]) F (H _ u.out).1 T9 (H _ u.out).2
 obtain⟨vd,ld⟩:=r;obtain⟨rfl,z⟩:=P;have m:A (bj f x5 (f+2) ld):=O z;have X:A (bF ld):=O (E _ I);replace j:=j.out;rw[jH]at j;replace j:=O j;dsimp only at j;clear z E;have cc:∀c:aD,c.parent.length=32->c.confirm.length=32->(av c fX).toArray.size=73:=λc h1 D=>gK c fX h1 D
 obtain⟨⟨v0,c0⟩,f0,g0,o0⟩:=cE (i:=0) (N T va) W.out (by rw[cc _ I I];decide);rw[N5]at g0;obtain⟨⟨v1,c1⟩,f1,g1,o1⟩:=cE (i:=1) (N T vb) g0 (by rw[cc _ I I];decide);rw[It]at g1;obtain⟨y1,d⟩:=J ((x5.setCell ⟨f+1,0,jc⟩ (N T va)).setCell ⟨f+1,1,jc⟩ (N T vb));rw[<-d]at g1;have cX:y1.there (f+1) 2 (vp.map v8).toArray.size:=mW g1 (by rw[cc _ I I,show(vp.map v8).toArray.size=(vp.map v8).length from j3 ..,jN,V];decide);have bf:(jm.info? 23).map (·.size)=ja (vp.map v8).toArray.size:=by rw[show(vp.map v8).toArray.size=(vp.map v8).length from j3 ..,jN,V];kernel_rfl
 have g2:=zQ (vp.map v8) 2 _ _ g1;rw[PK _ _ _ I V]at g2;obtain⟨y2,q⟩:=J (y1.setCells (f+1) 2 (vp.map v8));rw[<-q]at g2;obtain⟨⟨v3,c3⟩,f3,B,o3⟩:=cE (i:=34) (N T vd) g2 (by rw[cc _ V.out I];decide);rw[P5 _ _ _ V.out]at B;have SH:aM (f+1) x5.heap.size x5 (y2.setCell ⟨f+1,34,jc⟩ (N T vd)):=by
  rw[q,d];exact(((rh (f+1) x5.heap.size 0 (N T va) x5).trans (rh (f+1) x5.heap.size 1 (N T vb) _) (jw _)).trans (Gv (f+1) x5.heap.size (vp.map v8) 2 _) (jw _)).trans (rh (f+1) x5.heap.size 34 (N T vd) _) (jw _)
 have K:A ((y2.setCell ⟨f+1,34,jc⟩ (N T vd)).heap[f+1]?=ja (jd (av {eR with folder:=va,epoch:=vb,parent:=vp,author:=vd} fX).toArray 63 (0,0))):=O B;have M:=O (m.keep (w':=y2.setCell ⟨f+1,34,jc⟩ (N T vd)) (SH.block (f+2) m.lt Y) (λk hk=>SH.block k (bL m.lt) Y));have Q:=O (Ua _ _ u.out (Kp.ofC SH));have R:A (f+3<=(y2.setCell ⟨f+1,34,jc⟩ (N T vd)).heap.size):=O (by have:=m.lt;have:=SH.size;omega);have cA:=O cX;have Sb:=O bf;have aa:=O d;have ad:=O q;rw[d]at cA;have S:(y1.setCells (f+1) 2 (vp.map v8))=y2:=q.symm;rw[d]at S;clear g0 g1 g2 B o0 o1 o3 SH cX bf d q cc W m u U;have q:=X;clear X
 go_wp2_with (refine jt I λ_ u=>qh 23 _ _ I (f+1) 2 (vp.map v8).toArray I I cA Sb (ee vp) (u _ _ ?_);rw[show(vp.map v8).toArray.toList=vp.map v8 from I,S])
 generalize y2.setCell ⟨f+1,34,jc⟩ (N T vd)=x6 at K M Q R⊢;have d:=K;have VU:=M;have B:=Q;have U:=R;clear K M Q R c0 f0 c1 f1 c3 f3 S cA Sb aa ad;obtain⟨c6,m⟩:∃c:aD,c={eR with folder:=va,epoch:=vb,parent:=vp,author:=vd}:=⟨_,I⟩;rw[<-m]at d;replace V:A (c6.parent.length=32/\c6.confirm.length=32):=O (by rw[m];exact⟨V,dT⟩);have ez:=O m;clear m;refine gP λK1 bl=>gP λK2 e0=>iN ?_
 have t:=O (yI f (f+2) Y ld x6 VU q.len);obtain⟨y,o⟩:=J (rL ld);have E:=O (λr (h:y=ja r)=>q.rL (r:=r) (by rw[<-o];exact h));rw[<-o]at t j;clear o
 go_wp2_with fail
 refine t.mono ?_;rintro e x7 ⟨n,P⟩;have m:=O ((n.block (f+1) (jy.1 d).1 Y).trans d);have bk:=O (Ua _ _ B.out (Kp.ofR n));have a3:A (f+3<=x7.heap.size):=O (jS U n.size);clear n t B d VU q U
 rcases y with _|r
 ·obtain rfl:e=.panicked b9:=P
  have F:ov=jc:=j.out;exact gj (Ds:=[]) F (H _ bk.out).1 T9 (H _ bk.out).2
 obtain⟨c5,le⟩:=r;obtain⟨⟨B,ul,rfl,c7,cd,a4⟩,z⟩:=P;replace a4:aw (·<f) x7 (vL c5) ul:=a4;have bc:=E _ I;have b1:A (bj f x7 (f+2) le):=O z;have cb:A (bF le):=O bc.2;have UG:A (bF c5):=O bc.1;replace j:=j.out;rw[jH]at j;replace j:=O j;dsimp only at j;have RE:=O cd;have ZI:=O a4;clear z E bc c7 cd a4
 go_wp2_with fail
 refine wQ ?_;obtain⟨M,hM⟩:=J x7.heap.size;have SS:A (f+3<=M):=O (by rw[hM];exact a3);have HM:=O hM;obtain⟨U,Vn⟩:∃cs:jo->ju jo,cs=λv=>(av c6 ⟨v,jb jc 0 0,jb jc 0 0,jb jc 0 0⟩).toArray:=⟨_,I⟩
 have bn:A (∀v,(U v)[35]?=ja v):=O (λv=>by rw[Vn];exact NM _ _ _ _ _ V.1 V.2);have bo:A (∀v x,(U v).setIfInBounds 35 x=U x):=O (λv x=>by rw[Vn];exact MB _ _ _ _ _ _ V.1);have bq:A (∀v,(U v).size=73):=O (λv=>by rw[Vn];exact gK _ _ V.1 V.2);have br:A (x7.heap[f+1]?=ja (jd (U (jb jc 0 0)) 63 (0,0))):=O (by rw[Vn];exact m);have bs:=O Vn;have VN:A (cB iG c5=jc->ov=jc):=O (λh=>by have D:=j.out;rw[h]at D;exact D);clear hM Vn m;refine yb (fd:=Tryz.f73) (gf:=204) (lb:=#[jB (ja ⟨B,0,jc⟩)]) func73 I (enters_of func204 ag I)
  (wD (N0:=f) (n₀:=f) (m₀:=M) (jw _) c5 UG.len B ul x7 (aA a3) (by rw[HM];exact jw _) RE ZI) (aA a3) (λ_=>rfl) (yW (aA a3) c5)
  (λRF W=>∃R vr,cB iG (RF.map (·.2))=ja R/\dy M (f+1) 63 47 5 U x7 W R.length vr (R.flatMap ak.cells)) (λch W=>ch=b9/\ov=jc/\aM (f+1) M x7 W)
  (by rintro RF a2 B' ⟨R,vr,h1,D⟩ ht;exact⟨R,vr,h1,D.rolls (by rw[HM];exact jw _) ht⟩)
  ⟨[],jb jc 0 0,rfl,br,qm _ _ _ _,aM.refl _ _ _,by rw[HM];exact jw _⟩
  (λtm x=>(tm.setIfInBounds 19 (jB (ja ⟨x.1,0,jc⟩))).setIfInBounds 4 (jB (ja ⟨x.1,0,jc⟩))) ?assign ?body ?done ?panic
 case assign=>
  intro l' x a2 K u
  gi_wp2
  exact u
 case panic=>
  rintro D1 ch W hD hP bg;have F:ch=b9/\ov=jc/\aM (f+1) M x7 W:=by
   rcases hP with h|⟨RF,⟨rfl,v,r,e,hk⟩,R,vr,h1,D⟩
   ·exact h
   exact⟨I,VN.out (by rw[e];exact nG (.inl hk) h1),D.but⟩
  obtain⟨rfl,F,a1⟩:=F;have hO:=Ua _ _ bk.out (Kp.ofC (by rw[<-HM];exact a1));have Yg:(D1::[]).Nodup:=km.2 ⟨λh=>by have D:=((H _ bk.out).2 D1 h).1;have:=(jy.1 D).1;omega,T9⟩;exact gj (Ds:=D1::[]) F (H _ hO).1 Yg (λD' h=>by
   rcases jP.1 h with rfl|h
   ·exact⟨bg,by have:=a3.out;have:=Ys.out;omega⟩
   exact(H _ hO).2 D' h)
 case body=>
  rintro l' RF ⟨X,xv⟩ a2 ⟨R,vr,al,Q⟩ ⟨-,⟨rr,Vy⟩,hx⟩ bf ⟨T0,Vz⟩;obtain⟨a5,c8,Z0⟩:=hx RF (X,xv) I;dsimp only at a5 c8 Z0 Vy;simp only[j8,mT,lo,ol,mF,mz]at Vy;obtain⟨pX,e2,uX,bu,-,-⟩:=id Z0;obtain⟨pv,cv,rfl⟩:=a8 Q.own;have bv:A (bF xv.l):=O (UG.mem (by rw[Vy];simp));obtain⟨m,P⟩:=J R.length;have eg:m<=1000000:=by
   have h1:=tv al;have D:=jX j9 Vy;have h3:=UG.len;simp at h1 D;omega
  obtain⟨oc,ba⟩:=J (iG xv.l);have SP:A (oc=jc->ov=jc):=O (λh=>VN.out (by rw[Vy];exact nG (.inr (by rw[<-ba];exact h)) al));have c9:A (∀c,oc=ja c->cB iG ((RF++[(X,xv)]).map (·.2))=ja (R++[c])):=O (λc h=>by rw[j8];exact sP al a5 (by rw[<-ba];exact h));obtain⟨l0,b3⟩:=J xv.l;rw[<-b3]at ba bv Z0 bu;have q:A (oc=(rI l0).bind λa=>(rI a.2).bind λb=>(rI b.2).bind λc=>(rI c.2).bind λd=>(rI d.2).map λe=>⟨a.1,b.1,c.1,d.1,e.1⟩):=O ba;rw[<-P]at Q;have UR:=O P;have T7:=O bu;have S:=O Q;obtain⟨z0,RQ⟩:=J a2.drew;have Y7:A (z0.heap[f+1]?=ja (jd (U (jb pv m cv)) 63 (0,0))):=O (by rw[RQ];exact Q.box);have bw:A (bj f z0 X l0):=O (Z0.keep (by rw[RQ];rfl) (λk _=>by rw[RQ];rfl));have bA:=bv;have bd:A (aM X a2.heap.size a2 z0):=O (by rw[RQ];exact⟨I,I,I,jw _,λ_ _ _=>rfl⟩);have YV:A (M<=a2.heap.size):=O Q.sz';have ej:=SS.out;clear al Vy hx Vz a5 Z0 bu P ba b3 Q bv bf VN j RE ZI;refine wpIn_block ?_;dsimp only;simp only[oo,ow,o4];refine uo (λW'=>W'.heap[f+1]?=ja (jd (U (jb pv m cv)) 63 (0,0))) 16 [(0,jh),(1,jh),(2,jh),(4,jh),(6,jh),(8,jh),(10,jh),(3,jp),(5,jp),(7,jp),(9,jp),(11,jp),(12,jh),(13,jp),(14,jp),(15,jh),(16,jp)] ag ag ag ag I (λc a d v w h=>⟨by have:=h.1;rwa [put_defers]at this,h.2⟩) (fun⟨_,_,h⟩=>h) (by rw[<-RQ];exact Y7) ?_;rw[<-RQ];clear RQ;refine cQ ?_
  (refine dY (v:=?_) I aj (λW' hS=>?_) ?_;rotate_left;(have ek:=ae hS (bn _);go_simp;with_reducible rfl);refine L ?_)
  iterate 5 refine cQ ?_
  refine bE I (λK' u=>?_);go_simp;have t:=O (fY f X Y l0 z0 bw bA.len);obtain⟨y,o⟩:=J (rI l0);have E:=O (λr (h:y=ja r)=>bA.rI (r:=r) (by rw[<-o];exact h));rw[<-o]at t q;clear o;refine t.mono ?_;rintro e z1 ⟨n,aa⟩;have Ym:=O (bd.trans n bd.size);have ZY:=O ((n.block (f+1) (jy.1 Y7).1 Y).trans Y7);clear n t bd Y7 bw bA
  rcases y with _|r
  ·obtain rfl:e=.panicked b9:=aa
   have F:ov=jc:=SP q;exact⟨I,gZ T7 Ym,I,F,iE S.but Ym Y YV⟩
  obtain⟨vk,l1⟩:=r;obtain⟨rfl,z⟩:=aa;have bB:A (bj f z1 X l1):=O z;have bC:A (bF l1):=O (E _ I);replace q:=q.out;rw[jH]at q;replace q:=O q;dsimp only at q;refine u _ _ ZY.out λ_=>?_
  clear u z E;refine L ?_;refine bE I (λK' u=>?_);go_simp;have t:=O (fY f X Y l1 z1 bB bC.len);obtain⟨y,o⟩:=J (rI l1);have E:=O (λr (h:y=ja r)=>bC.rI (r:=r) (by rw[<-o];exact h));rw[<-o]at t q;clear o;refine t.mono ?_;rintro e z2 ⟨n,aa⟩;have ZX:=O (Ym.trans n Ym.size);have bm:=O ((n.block (f+1) (jy.1 ZY).1 Y).trans ZY);clear n t Ym ZY bB bC
  rcases y with _|r
  ·obtain rfl:e=.panicked b9:=aa
   have F:ov=jc:=SP q;exact⟨I,gZ T7 ZX,I,F,iE S.but ZX Y YV⟩
  obtain⟨ve,l2⟩:=r;obtain⟨rfl,z⟩:=aa;have cL:A (bj f z2 X l2):=O z;have ce:A (bF l2):=O (E _ I);replace q:=q.out;rw[jH]at q;replace q:=O q;dsimp only at q;refine u _ _ bm.out λ_=>?_
  clear u z E;refine L ?_;refine bE I (λK' u=>?_);go_simp;have t:=O (fY f X Y l2 z2 cL ce.len);obtain⟨y,o⟩:=J (rI l2);have E:=O (λr (h:y=ja r)=>ce.rI (r:=r) (by rw[<-o];exact h));rw[<-o]at t q;clear o;refine t.mono ?_;rintro e z3 ⟨n,aa⟩;have b4:=O (ZX.trans n ZX.size);have ct:=O ((n.block (f+1) (jy.1 bm).1 Y).trans bm);clear n t ZX bm cL ce
  rcases y with _|r
  ·obtain rfl:e=.panicked b9:=aa
   have F:ov=jc:=SP q;exact⟨I,gZ T7 b4,I,F,iE S.but b4 Y YV⟩
  obtain⟨vf,l3⟩:=r;obtain⟨rfl,z⟩:=aa;have ea:A (bj f z3 X l3):=O z;have cz:A (bF l3):=O (E _ I);replace q:=q.out;rw[jH]at q;replace q:=O q;dsimp only at q;refine u _ _ ct.out λ_=>?_
  clear u z E;refine L ?_;refine bE I (λK' u=>?_);go_simp;have t:=O (fY f X Y l3 z3 ea cz.len);obtain⟨y,o⟩:=J (rI l3);have E:=O (λr (h:y=ja r)=>cz.rI (r:=r) (by rw[<-o];exact h));rw[<-o]at t q;clear o;refine t.mono ?_;rintro e z4 ⟨n,aa⟩;have ad:=O (b4.trans n b4.size);have bb:=O ((n.block (f+1) (jy.1 ct).1 Y).trans ct);clear n t b4 ct ea cz
  rcases y with _|r
  ·obtain rfl:e=.panicked b9:=aa
   have F:ov=jc:=SP q;exact⟨I,gZ T7 ad,I,F,iE S.but ad Y YV⟩
  obtain⟨vg,l4⟩:=r;obtain⟨rfl,z⟩:=aa;have bK:A (bj f z4 X l4):=O z;have bI:A (bF l4):=O (E _ I);replace q:=q.out;rw[jH]at q;replace q:=O q;dsimp only at q;refine u _ _ bb.out λ_=>?_
  clear u z E;refine L ?_;refine bE I (λK' u=>?_);go_simp;have t:=O (fY f X Y l4 z4 bK bI.len);obtain⟨y,o⟩:=J (rI l4);have E:=O (λr (h:y=ja r)=>bI.rI (r:=r) (by rw[<-o];exact h));rw[<-o]at t q;clear o;refine t.mono ?_;rintro e z5 ⟨n,aa⟩;have bh:=O (ad.trans n ad.size);have bM:=O ((n.block (f+1) (jy.1 bb).1 Y).trans bb);clear n t ad bb bK bI
  rcases y with _|r
  ·obtain rfl:e=.panicked b9:=aa
   have F:ov=jc:=SP q;exact⟨I,gZ T7 bh,I,F,iE S.but bh Y YV⟩
  obtain⟨vh,l5⟩:=r;obtain⟨rfl,z⟩:=aa;have bK:A (bj f z5 X l5):=O z;have bN:A (bF l5):=O (E _ I);replace q:=q.out;rw[lr]at q;replace q:=O q;dsimp only at q;refine u _ _ bM.out λ_=>?_
  clear u z E;refine L ?_;refine cQ ?_;refine bE I (λK' u=>?_);go_simp;refine u _ _ (az bM (ai _ _)) λ_=>?_
  clear u;refine L ?_;have bI:=S.laterX Y Y T7 G bh;have bb:=ai z5 (jd #[N T vk,N T ve,N T vf,N T vg,N T vh] 47);have ad:=bI.later Y bb;refine bE I (λK' u=>?_);rw[jA aj];refine IB _ _ I M (jb pv m cv) m _ I ad.own _ 1 [N T vk,N T ve,N T vf,N T vg,N T vh] I (eU z5 [N T vk,N T ve,N T vf,N T vg,N T vh] 47 (0,0) 5 1 1 I (jw _)) (by simp[kl]) Y ad.sz' λv' z7 Sd=>?_
  have Tx:=eP ad.box Sd.grown (cJ ad.own (.inr Y));obtain⟨pn,cn,rfl⟩:=a8 Sd.own;have YM:=O Tx;have b5:=O Sd;have VU:=O ad;clear bI ad bb;refine u _ _ Tx λ_=>?_
  clear u Tx Sd;refine L ?_;refine cQ ?_;obtain⟨⟨vo,c3⟩,f3,-,-⟩:=cE (i:=35) (jb pn (m+1) cn) YM.out (by rw[bq];decide);refine g6 I (λK' u=>?_);go_simp;refine u _ _ ?_;have ca:=dy.push (i:=35) VU Y b5 (bo _ _);have cf:=(gZ (B0:=x7.heap.size) T7 bh).trans ((yx _ _ _).trans (yK VU b5 (i:=35)));refine⟨⟨cf,vz S.but ca.but cf.size Y Y⟩,R++[⟨vk,ve,vf,vg,vh⟩],jb pn (m+1) cn,c9 _ q.out,?_⟩;rw[j1,List.flatMap_append,<-UR];exact ca
 case done=>
  rintro D1 xs W hD ⟨TE,a5⟩ ⟨R,vr,al,Q⟩ bg;rw[TE]at al;obtain⟨bK,bM,rfl⟩:=a8 Q.own;have a1:=Q.but;replace j:=j.out;rw[al,jH]at j;replace j:=O j;have Wx:aM (f+1) x7.heap.size x7 W:=by rw[<-HM];exact a1
  have cm:A (bj f W (f+2) le):=O (b1.keep (Wx.block (f+2) b1.lt Y) (λk hk=>Wx.block k (bL b1.lt) Y));have ck:=cb;have b2:A (W.heap[f+1]?=ja (jd (av c6 ⟨jb bK R.length bM,jb jc 0 0,jb jc 0 0,jb jc 0 0⟩).toArray 63 (0,0))):=O (by have h:=Q.box;rw[bs]at h;exact h);have hO:=Ua _ _ bk.out (Kp.ofC Wx);have cp:A (f+3<=W.heap.size):=O (jS a3 a1.size);have Yg:(D1::[]).Nodup:=km.2 ⟨λh=>by have D:=((H _ bk.out).2 D1 h).1;have:=(jy.1 D).1;omega,T9⟩;have bh:D1≠f+1/\D1≠f+2/\w.heap.size<=D1:=by have:=a3.out;have:=Ys.out;omega
  obtain⟨H1,bN⟩:=J W.heap.size;obtain⟨M1,bO⟩:=J M;obtain⟨r1,cj⟩:=J R;rw[<-cj]at Q j b2;rw[<-bO]at Q;have RJ:ay (λg=>M1<=g/\g<W.heap.size) W (jb bK r1.length bM) 5 r1.length (r1.flatMap ak.cells):=ay.of_own Q.own (λg hg=>Q.own.lt g hg);obtain⟨O1,TM⟩:∃VK:jj->Prop,VK=λx=>(O0 x/\x.heap[D1]?=ja (.deferred (ja [])))/\(H1<=x.heap.size/\ay (λg=>M1<=g/\g<H1) x (jb bK r1.length bM) 5 r1.length (r1.flatMap ak.cells)):=⟨_,I⟩
  have bT:A (gW (f+1) (f+2) O1):=O (by rw[TM];exact(Ua.and (zC bh.1 bh.2.1)).and (Af (aA SS) (aA SS)));have b0:A (∀x,O1 x->jr w w x/\∀D'∈D1::[],x.heap[D']?=ja (.deferred (ja []))/\w.heap.size<=D'):=O (by
   rw[TM];intro x h;refine⟨(H x h.1.1).1,λD' db=>?_⟩
   rcases jP.1 db with rfl|D
   ·exact⟨h.1.2,bh.2.2⟩
   exact(H x h.1.1).2 D' D)
  have VV:A (∀x,O1 x->H1<=x.heap.size/\ay (λg=>M1<=g/\g<H1) x (jb bK r1.length bM) 5 r1.length (r1.flatMap ak.cells)):=O (by rw[TM];exact λx h=>h.2)
  skip
  have cq:A (O1 W):=O (by rw[TM,bN];exact⟨⟨hO,bg⟩,jw _,RJ⟩);have Tr:A (f+3<=M1/\M1<=H1):=O ⟨by rw[bO];exact SS,by rw[bN];exact Q.sz'⟩;replace T9:=O Yg;replace Ua:=bT;replace H:=b0;clear Q a1 Wx hO bh RJ bN TM Yg bT b0 b1 bk cb UG RE ZI VN br bn bo bq bs SS HM a3 TE a5 al bO cj hD bg;rename jj=>x8;refine bl _ _ ?_;clear bl K1;have cy:=Eg;refine gP λK1 bl=>iN ?_
  have t:=O (uE f (f+2) Y 3 le x8 cm ck.len);replace j:=j.out;rw[show rL le=(nx 3 le).map (λr=>(r.1.l,r.2))from I]at j;obtain⟨y,o⟩:=J (nx 3 le);have E:A (∀r,y=ja r->bF r.1.l/\bF r.2):=O (λr h=>by
   have D:=ck.out;obtain⟨e1,-⟩:=lS (o.symm.trans h);rw[e1]at D;exact⟨D.mem (ql ..),D.tail⟩)
  rw[<-o]at t j;replace j:=O j;clear o
  go_wp2_with fail
  refine t.mono ?_;rintro e x9 ⟨n,P⟩;have cw:=O ((n.block (f+1) (jy.1 b2).1 Y).trans b2);have b1:=O (Ua _ _ cq.out (Kp.ofR n));have cb:A (f+3<=x9.heap.size):=O (jS cp n.size);clear n t cq b2 cm ck cp
  rcases y with _|r
  ·obtain rfl:e=.panicked b9:=P
   have F:ov=jc:=j.out;exact gj (Ds:=[D1]) F (H _ b1.out).1 T9 (H _ b1.out).2
  obtain⟨xe,lf⟩:=r;obtain⟨⟨ue,rfl,ck⟩,z⟩:=P;obtain⟨pp,e3,rfl⟩:=ck.form;have bc:=E _ I;have eb:A (bF lf):=O bc.2;have b2:A (bF xe.l):=O bc.1;have Vl:A (bj f x9 (f+2) lf):=O z;replace j:=j.out;rw[lr,jH]at j;replace j:=O j;dsimp only at j;obtain⟨lp,cp⟩:=J xe.l;have a3:=bj.new (N0:=f) (l:=xe.l) (x:=xe) I ck (aA cb);obtain⟨np,cq⟩:=J xe.l.length;rw[<-cq]at a3⊢;rw[<-cp]at a3 b2 j;obtain⟨M,hM⟩:=J x9.heap.size;have bk:=ai x9 (jd #[jb pp np e3] 216);obtain⟨y0,cm⟩:=J (x9.alloc (jd #[jb pp np e3] 216));rw[<-cm]at a3 bk;rw[<-hM]at a3;have SS:A (f+3<=M):=O (by rw[hM];exact cb);have HM:=O hM;have cx:=O cm;have ec:A (M<=y0.heap.size):=O (by rw[hM];exact bk.size);obtain⟨U,Vn⟩:∃cs:jo->ju jo,cs=λv=>(av c6 ⟨jb bK r1.length bM,v,jb jc 0 0,jb jc 0 0⟩).toArray:=⟨_,I⟩
  have bn:A (∀v,(U v)[36]?=ja v):=O (λv=>by rw[Vn];exact(lQ _ _ _ _ _ V.1 V.2).1);have bo:A (∀v x,(U v).setIfInBounds 36 x=U x):=O (λv x=>by rw[Vn];exact Fq _ _ _ _ _ _ V.1);have bq:A (∀v,(U v).size=73):=O (λv=>by rw[Vn];exact gK _ _ V.1 V.2);have br:A (x9.heap[f+1]?=ja (jd (U (jb jc 0 0)) 63 (0,0))):=O (by rw[Vn];exact cw);have eq:A (dy M (f+1) 63 3 1 U x9 y0 0 (jb jc 0 0) []):=O ⟨az br bk,qm _ _ _ _,by rw[hM];exact aM.of_below bk,ec⟩;have er:A (bj f y0 M lp):=O a3;have bs:=O Vn;have VN:A (dl lp=jc->ov=jc):=O (λh=>by have D:=j.out;rw[h]at D;exact D);clear z ck bc E cp a3 cq hM bk cm Vn cw
  go_wp2_with fail
  refine zH cx ?_;rw[<-HM];clear cx cy;refine gP λK1 bl=>iN ?_
  go_wp2_with fail
  go_loopw [38] (λ_ wr=>∃(dn a3:jn Val) (is:jn jl) (vr:jo),A (lp=dn++a3)/\A (dl dn=ja is)/\A (dy M (f+1) 63 3 1 U x9 wr is.length vr (is.map (jg .i64)))/\A (bj f wr M a3)) (λ_ wr=>wS M wr)
  case atStart=>exact⟨[],lp,[],jb jc 0 0,O I,O I,eq,er⟩
  obtain⟨dn,a3,is,vr,bk,Te,S,Sj⟩:=hrel;have e4:A (bF a3):=O (b2.suffix bk);have e5:A (∀v r,a3=v::r->v.k≠1->ov=jc):=O (λv r e hk=>VN.out (by rw[bk,e];exact zW hk Te));obtain⟨pv,cv,rfl⟩:=a8 S.own;obtain⟨m,P⟩:=J is.length;have eg:m<=1000000:=by
   have h1:=Dp Te;have D:=jX j9 bk;have h3:=b2.len;simp at D;omega
  replace S:=S.out;rw[<-P]at S;replace S:=O S;have UR:=O P;clear P
  by_cases em:a3=[]
  case neg=>
   obtain⟨xv,a3,rfl⟩:∃x r,a3=x::r:=by cases a3 with|nil=>exact js I em|cons x r=>exact⟨x,r,I⟩
   clear em;obtain⟨p0,ep,fe,h0,-,-⟩:=id Sj;obtain⟨nr,ck⟩:=J a3.length;have c0:wr.cell? ⟨M,0,jc⟩=ja (jb p0 (nr+1) ep):=by rw[ck];exact ae h0 I
   have d1:decide (0<((nr+1:jk):jl))=jh:=by simp
   have d2:decide (0<(nr:jl)+1)=jh:=by simp
   have d3:decide (0<nr+1)=jh:=by simp
   have T7:=O h0;have cw:=O ck;clear h0 ck
   go_upto_region 8 with fail
   obtain⟨z0,RQ⟩:=J wr.drew;have Y7:A (z0.heap[f+1]?=ja (jd (U (jb pv m cv)) 63 (0,0))):=O (by rw[RQ];exact S.box);have bw:A (bj f z0 M (xv::a3)):=O (Sj.keep (by rw[RQ];rfl) (λk _=>by rw[RQ];rfl));have bd:A (aM M wr.heap.size wr z0):=O (by rw[RQ];exact⟨I,I,I,jw _,λ_ _ _=>rfl⟩);have ej:=SS.out;clear c0 d1 d2 d3;refine IF (λW'=>W'.heap[f+1]?=ja (jd (U (jb pv m cv)) 63 (0,0))) 6 [(0,jh),(1,jh),(2,jp),(3,jp),(4,jp),(5,jh),(6,jp)] ag ag ag ag (by rw[<-RQ];exact Y7) ?_;rw[<-RQ];clear RQ;refine cQ ?_
   (refine dY (v:=?_) I aj (λW' hS=>?_) ?_;rotate_left;(have ek:=ae hS (bn _);go_simp;with_reducible rfl);refine L ?_)
   refine bE I (λK' u=>?_);go_simp;have t:=O (fY f M Y (xv::a3) z0 bw e4.len);obtain⟨y,o⟩:=J (rI (xv::a3));have ck:A ((y=jc->xv.k≠1)/\∀r,y=ja r->xv.k=1/\r=(xv.n,a3)):=O (by rw[o];exact NP xv a3);rw[<-o]at t;clear o;refine t.mono ?_;rintro e z1 ⟨n,aa⟩;have Ym:=O (bd.trans n bd.size);have ZY:=O ((n.block (f+1) (jy.1 Y7).1 Y).trans Y7);clear n t bd Y7 bw
   rcases y with _|r
   ·obtain rfl:e=.panicked b9:=aa
    have F:ov=jc:=e5 _ _ I (ck.1 I);have hO:=Ua _ _ b1.out (Kp.ofC (by have h:=iE S.but Ym (jw _) S.sz';rw[HM]at h;exact h));intro tt;exact gj (Ds:=[D1]) F (H _ hO).1 T9 (H _ hO).2
   obtain⟨cp,rfl⟩:=ck.2 r I;obtain⟨rfl,z⟩:=aa;have bB:A (bj f z1 M a3):=O z;obtain⟨vi,cm⟩:=J xv.n;dsimp only;rw[<-cm];have cq:=O cm;have Ul:=O cp;refine u _ _ ZY.out λ_=>?_
   clear u z ck cm cp;refine L ?_;refine bE I (λK' u=>?_);go_simp;refine u _ _ (az ZY (ai _ _)) λ_=>?_
   clear u;refine L ?_;have bI:=S.laterX Y (jw _) T7 G Ym;have bb:=ai z1 (jd #[N T vi] 3);have ad:=bI.later Y bb;have ck:=bB.below Y bb;refine bE I (λK' u=>?_);rw[jA aj];refine FZ _ _ I M (jb pv m cv) m _ I ad.own _ 1 [N T vi] I (eU z1 [N T vi] 3 (0,0) 1 1 1 I (jw _)) (by simp[kl]) Y ad.sz' λv' z7 Sd=>?_
   have Tx:=eP ad.box Sd.grown (cJ ad.own (.inr Y));have cm:bj f z7 M a3:=ck.keep (Sd.grown.block M (by have:=ad.sz';have:=bB.lt;have:=bb.size;omega) (λe=>by
    rcases ad.own.2 with D|⟨g,ed,R4,e1,D,h3,h4⟩
    ·rw[D.1]at e;cases e
    rw[e1]at e;injection e with e
    obtain⟨p9,cp,cx,h9,-,-⟩:=ck;rw[e,h3]at h9;cases h9)) (λk hk=>Sd.grown.block k (bL ad.sz') (λe=>by have:=(ad.own.lt k e.symm).1;omega))
   obtain⟨pn,cn,rfl⟩:=a8 Sd.own;have YM:=O Tx;have b5:=O Sd;have VU:=O ad;have cp:=O cm;clear bI ad bb ck cm;refine u _ _ Tx λ_=>?_
   clear u Tx Sd;refine L ?_;refine cQ ?_;obtain⟨⟨vo,c3⟩,f3,-,-⟩:=cE (i:=36) (jb pn (m+1) cn) YM.out (by rw[bq];decide);refine g6 I (λK' u=>?_);go_simp;refine u _ _ ?_;have ca:=dy.push (i:=36) VU Y b5 (bo _ _);have ck:bj f (z7.setCell ⟨f+1,36,jc⟩ (jb pn (m+1) cn)) M a3:=cp.keep (oJ _ Y) (λk hk=>oJ _ Y);have cm:=FW ck;have b3:=FW Sj;clear c3 f3 u
   go_wp2_with fail
   go_roundw
   case rel=>exact⟨_,_,_,_,_,_,_,_,_,⟨dn++[xv],a3,is++[vi],jb pn (m+1) cn,O (by rw[bk];simp),O (by rw[cq];exact FV Te Ul),O (by rw[j1,j8,<-UR];exact ca),O ck⟩,I⟩
   case measure=>rw[cm,b3];simp
  subst em;obtain⟨p0,ep,fe,h0,-,-⟩:=id Sj;have c0:wr.cell? ⟨M,0,jc⟩=ja (jb p0 0 ep):=ae h0 I;clear h0;have e1:dn=lp:=by have h:=bk.out;rw[pa]at h;exact h.symm
  replace Te:=Te.out;rw[e1]at Te;replace j:=j.out;rw[Te,jH]at j;replace j:=O j;have a1:=S.but;have Wx:aM (f+1) x9.heap.size x9 wr:=by rw[<-HM];exact a1
  have e6:A (bj f wr (f+2) lf):=O (Vl.keep (Wx.block (f+2) Vl.lt Y) (λk hk=>Wx.block k (bL Vl.lt) Y));have cy:=eb;have cx:A (wr.heap[f+1]?=ja (jd (av c6 ⟨jb bK r1.length bM,jb pv m cv,jb jc 0 0,jb jc 0 0⟩).toArray 63 (0,0))):=O (by have h:=S.box;rw[bs]at h;exact h);have hO:=Ua _ _ b1.out (Kp.ofC Wx);have e7:A (f+3<=wr.heap.size):=O (jS cb a1.size);obtain⟨Hp,dr⟩:=J wr.heap.size;obtain⟨Mp,cq⟩:=J M;obtain⟨ip,cw⟩:=J is;obtain⟨ck,ds⟩:=J pv;obtain⟨cm,dv⟩:=J cv;have RJ:ay (λg=>Mp<=g/\g<wr.heap.size) wr (jb ck ip.length cm) 1 ip.length (ip.map (jg .i64)):=by
   rw[cq,cw,ds,dv,<-UR];exact ay.of_own S.own (λg hg=>S.own.lt g hg)
  rw[UR,<-cw,<-ds,<-dv]at cx;rw[<-cw]at j;obtain⟨Op,TM⟩:∃VK:jj->Prop,VK=λx=>O1 x/\(Hp<=x.heap.size/\ay (λg=>Mp<=g/\g<Hp) x (jb ck ip.length cm) 1 ip.length (ip.map (jg .i64))):=⟨_,I⟩
  have bT:A (gW (f+1) (f+2) Op):=O (by rw[TM];exact Ua.and (Af (aA SS) (aA SS)));have b0:A (∀x,Op x->jr w w x/\∀D'∈[D1],x.heap[D']?=ja (.deferred (ja []))/\w.heap.size<=D'):=O (by rw[TM];exact λx h=>H x h.1);have dd:A (∀x,Op x->Hp<=x.heap.size/\ay (λg=>Mp<=g/\g<Hp) x (jb ck ip.length cm) 1 ip.length (ip.map (jg .i64))):=O (by rw[TM];exact λx h=>h.2);have cp:=O (λx (h:Op x)=>VV x (by rw[TM]at h;exact h.1));replace VV:=cp;have e8:A (Op wr):=O (by rw[TM,dr];exact⟨hO,jw _,RJ⟩);have fm:A (f+3<=Mp/\Mp<=Hp):=O ⟨by rw[cq];exact SS,by rw[dr,cq];exact S.sz'⟩;replace Ua:=bT;replace H:=b0;clear cp e1 Te a1 Wx hO dr cq cw ds dv RJ TM bT b0 Sj S bk UR e5 e4 Vl b1 eb cb b2 VN eq er br bn bo bq bs SS HM ec
  go_wp2_with fail
  clear c0;rename jj=>x10
  skip
  refine gP λK1 bl=>gP λK2 e0=>iN ?_
  have t:=O (yI f (f+2) Y lf x10 e6 cy.len);obtain⟨y,o⟩:=J (rL lf);have E:=O (λr (h:y=ja r)=>cy.rL (r:=r) (by rw[<-o];exact h));rw[<-o]at t j;clear o
  go_wp2_with fail
  refine t.mono ?_;rintro e U2 ⟨n,P⟩;have bk:=O ((n.block (f+1) (jy.1 cx).1 Y).trans cx);have cw:=O (Ua _ _ e8.out (Kp.ofR n));have cq:A (f+3<=U2.heap.size):=O (jS e7 n.size);clear n t e8 cx e6 cy e7
  rcases y with _|r
  ·obtain rfl:e=.panicked b9:=P
   have F:ov=jc:=j.out;exact gj (Ds:=[D1]) F (H _ cw.out).1 T9 (H _ cw.out).2
  obtain⟨dr,lg⟩:=r;obtain⟨⟨B,ul,rfl,c7,cd,a4⟩,z⟩:=P;replace a4:aw (·<f) U2 (vL dr) ul:=a4;have bc:=E _ I;have eb:A (bj f U2 (f+2) lg):=O z;have e1:A (bF lg):=O bc.2;have UG:A (bF dr):=O bc.1;replace j:=j.out;rw[jH]at j;replace j:=O j;dsimp only at j;have RE:=O cd;have ZI:=O a4;clear z E bc c7 cd a4
  go_wp2_with fail
  refine wQ ?_;obtain⟨M,hM⟩:=J U2.heap.size;have SS:A (f+3<=M):=O (by rw[hM];exact cq);have HM:=O hM;obtain⟨U,Vn⟩:∃cs:jo->ju jo,cs=λv=>(av c6 ⟨jb bK r1.length bM,jb ck ip.length cm,v,jb jc 0 0⟩).toArray:=⟨_,I⟩
  have bn:A (∀v,(U v)[37]?=ja v):=O (λv=>by rw[Vn];exact(lQ _ _ _ _ _ V.1 V.2).2.1);have bo:A (∀v x,(U v).setIfInBounds 37 x=U x):=O (λv x=>by rw[Vn];exact vW _ _ _ _ _ _ V.1);have bq:A (∀v,(U v).size=73):=O (λv=>by rw[Vn];exact gK _ _ V.1 V.2);have br:A (U2.heap[f+1]?=ja (jd (U (jb jc 0 0)) 63 (0,0))):=O (by rw[Vn];exact bk);have bs:=O Vn;have VN:A (cB rBx dr=jc->ov=jc):=O (λh=>by have D:=j.out;rw[h]at D;exact D);clear hM Vn bk;refine yb (fd:=Tryz.f73) (gf:=204) (lb:=#[jB (ja ⟨B,0,jc⟩)]) func73 I (enters_of func204 ag I)
   (wD (N0:=f) (n₀:=f) (m₀:=M) (jw _) dr UG.len B ul U2 (aA cq) (by rw[HM];exact jw _) RE ZI) (aA cq) (λ_=>rfl) (yW (aA cq) dr)
   (λRF W=>∃R vr us,cB rBx (RF.map (·.2))=ja R/\cP M (f+1) 63 54 4 Bx.cells Bx.body U U2 W R.length vr R us) (λch W=>ch=b9/\ov=jc/\aM (f+1) M U2 W)
   (by rintro RF a2 B' ⟨R,vr,us,h1,D⟩ ht;exact⟨R,vr,us,h1,D.rolls (by rw[HM];exact jw _) ht⟩)
   ⟨[],jb jc 0 0,[],rfl,cP.start br.out (by rw[HM];exact jw _)⟩
   (λtm x=>(tm.setIfInBounds 48 (jB (ja ⟨x.1,0,jc⟩))).setIfInBounds 6 (jB (ja ⟨x.1,0,jc⟩))) ?assign ?body ?done ?panic
  case assign=>
   intro l' x a2 K u
   gi_wp2
   exact u
  case panic=>
   rintro D2 ch W hD hP bg;have F:ch=b9/\ov=jc/\aM (f+1) M U2 W:=by
    rcases hP with h|⟨RF,⟨rfl,v,r,e,hk⟩,R,vr,us,h1,D⟩
    ·exact h
    exact⟨I,VN.out (by rw[e];exact nG (.inl hk) h1),D.row.but⟩
   obtain⟨rfl,F,a1⟩:=F;have hO:=Ua _ _ cw.out (Kp.ofC (by rw[<-HM];exact a1));have Yg:(D2::[D1]).Nodup:=km.2 ⟨λh=>by have D:=((H _ cw.out).2 D2 h).1;have:=(jy.1 D).1;omega,T9⟩;exact gj (Ds:=D2::[D1]) F (H _ hO).1 Yg (λD' h=>by
    rcases jP.1 h with rfl|h
    ·exact⟨bg,by have:=cq.out;have:=Ys.out;omega⟩
    exact(H _ hO).2 D' h)
  case body=>
   rintro l' RF ⟨X,xv⟩ a2 ⟨R,vr,us,al,Q⟩ ⟨-,⟨rr,Vy⟩,hx⟩ bf ⟨T0,Vz⟩;obtain⟨a5,c8,Z0⟩:=hx RF (X,xv) I;dsimp only at a5 c8 Z0 Vy;simp only[j8,mT,lo,ol,mF,mz]at Vy;obtain⟨pX,e2,uX,bu,-,-⟩:=id Z0;obtain⟨pv,cv,rfl⟩:=a8 Q.row.own;have bv:A (bF xv.l):=O (UG.mem (by rw[Vy];simp));obtain⟨m,P⟩:=J R.length;have eg:m<=1000000:=by
    have h1:=tv al;have D:=jX j9 Vy;have h3:=UG.len;simp at h1 D;omega
   obtain⟨oc,ba⟩:=J (rBx xv.l);have SP:A (oc=jc->ov=jc):=O (λh=>VN.out (by rw[Vy];exact nG (.inr (by rw[<-ba];exact h)) al));have c9:A (∀c,oc=ja c->cB rBx ((RF++[(X,xv)]).map (·.2))=ja (R++[c])):=O (λc h=>by rw[j8];exact sP al a5 (by rw[<-ba];exact h));obtain⟨l0,b3⟩:=J xv.l;rw[<-b3]at ba bv Z0 bu;have q:A (oc=(rI l0).bind λa=>(rI a.2).bind λb=>(rW b.2).map λw=>⟨a.1,b.1,w.1.1,w.1.2⟩):=O ba;rw[<-P]at Q;have UR:=O P;have T7:=O bu;have S:=O Q;obtain⟨z0,RQ⟩:=J a2.drew;have Y7:A (z0.heap[f+1]?=ja (jd (U (jb pv m cv)) 63 (0,0))):=O (by rw[RQ];exact Q.row.box);have bw:A (bj f z0 X l0):=O (Z0.keep (by rw[RQ];rfl) (λk _=>by rw[RQ];rfl));have bA:=bv;have bd:A (aM X a2.heap.size a2 z0):=O (by rw[RQ];exact⟨I,I,I,jw _,λ_ _ _=>rfl⟩);have YV:A (M<=a2.heap.size):=O Q.row.sz';have ej:=SS.out;clear al Vy hx Vz a5 Z0 bu P ba b3 Q bv bf VN j RE ZI;refine wpIn_block ?_;dsimp only;simp only[oo,ow,o4];refine uo (λW'=>W'.heap[f+1]?=ja (jd (U (jb pv m cv)) 63 (0,0))) 12 [(0,jh),(1,jh),(2,jh),(4,jh),(6,jh),(3,jp),(5,jp),(7,jp),(8,jh),(9,jp),(10,jp),(11,jh),(12,jp)] ag ag ag ag I (λc a d v w h=>⟨by have:=h.1;rwa [put_defers]at this,h.2⟩) (fun⟨_,_,h⟩=>h) (by rw[<-RQ];exact Y7) ?_;rw[<-RQ];clear RQ;refine cQ ?_
   (refine dY (v:=?_) I aj (λW' hS=>?_) ?_;rotate_left;(have ek:=ae hS (bn _);go_simp;with_reducible rfl);refine L ?_)
   iterate 3 refine cQ ?_
   refine bE I (λK' u=>?_);go_simp;have t:=O (fY f X Y l0 z0 bw bA.len);obtain⟨y,o⟩:=J (rI l0);have E:=O (λr (h:y=ja r)=>bA.rI (r:=r) (by rw[<-o];exact h));rw[<-o]at t q;clear o;refine t.mono ?_;rintro e z1 ⟨n,aa⟩;have Ym:=O (bd.trans n bd.size);have ZY:=O ((n.block (f+1) (jy.1 Y7).1 Y).trans Y7);clear n t bd Y7 bw bA
   rcases y with _|r
   ·obtain rfl:e=.panicked b9:=aa
    have F:ov=jc:=SP q;exact⟨I,gZ T7 Ym,I,F,iE S.row.but Ym Y YV⟩
   obtain⟨vk,l1⟩:=r;obtain⟨rfl,z⟩:=aa;have bB:A (bj f z1 X l1):=O z;have bC:A (bF l1):=O (E _ I);replace q:=q.out;rw[jH]at q;replace q:=O q;dsimp only at q;refine u _ _ ZY.out λ_=>?_
   clear u z E;refine L ?_;refine bE I (λK' u=>?_);go_simp;have t:=O (fY f X Y l1 z1 bB bC.len);obtain⟨y,o⟩:=J (rI l1);have E:=O (λr (h:y=ja r)=>bC.rI (r:=r) (by rw[<-o];exact h));rw[<-o]at t q;clear o;refine t.mono ?_;rintro e z2 ⟨n,aa⟩;have ZX:=O (Ym.trans n Ym.size);have bm:=O ((n.block (f+1) (jy.1 ZY).1 Y).trans ZY);clear n t Ym ZY bB bC
   rcases y with _|r
   ·obtain rfl:e=.panicked b9:=aa
    have F:ov=jc:=SP q;exact⟨I,gZ T7 ZX,I,F,iE S.row.but ZX Y YV⟩
   obtain⟨ve,l2⟩:=r;obtain⟨rfl,z⟩:=aa;have cL:A (bj f z2 X l2):=O z;have ce:A (bF l2):=O (E _ I);replace q:=q.out;rw[jH]at q;replace q:=O q;dsimp only at q;refine u _ _ bm.out λ_=>?_
   clear u z E;refine L ?_;refine bE I (λK' u=>?_);go_simp;have t:=O (ER f X Y l2 z2 cL ce.len);obtain⟨y,o⟩:=J (rW l2);have E:=O (λr (h:y=ja r)=>ce.rW (r:=r) (by rw[<-o];exact h));rw[<-o]at t q;clear o;refine t.mono ?_;rintro e z3 ⟨n,aa⟩;have b4:=O (ZX.trans n ZX.size);have ct:=O ((n.block (f+1) (jy.1 bm).1 Y).trans bm);have ds:=O ZX.size;clear n t ZX bm cL ce
   rcases y with _|r
   ·obtain rfl:e=.panicked b9:=aa
    have F:ov=jc:=SP q;exact⟨I,gZ T7 b4,I,F,iE S.row.but b4 Y YV⟩
   obtain⟨vw,l3⟩:=r;obtain⟨⟨ub,rfl,cx⟩,z⟩:=aa;obtain⟨pb,cb,rfl⟩:=cx.form;have UX:=O cx;obtain⟨bk,b1⟩:=vw;dsimp only at UX q z⊢;obtain⟨b2,cy⟩:=J b1.length;rw[<-cy]at UX⊢;have Vf:=O cy;clear cy cx;have ea:A (bj f z3 X l3):=O z;have cz:A (bF l3):=O (E _ I);replace q:=q.out;rw[lr]at q;replace q:=O q;dsimp only at q;refine u _ _ ct.out λ_=>?_
   clear u z E;refine L ?_;refine cQ ?_;refine bE I (λK' u=>?_);go_simp;refine u _ _ (az ct (ai _ _)) λ_=>?_
   clear u;refine L ?_;have bI:=S.laterX Y Y T7 G b4;have bb:=ai z3 (jd #[N T vk,N T ve,N T bk,jb pb b2 cb] 54);have ad:=bI.later Y bb;have dv:=(ay.keep UX (λg hg=>bb.block g hg.2)).mono (D':=λg=>M<=g/\g<(z3.alloc (jd #[N T vk,N T ve,N T bk,jb pb b2 cb] 54)).heap.size/\(pz pv m cv).ownBlock≠ja g) (λg hg=>⟨by have:=ds.out;have:=YV.out;omega,jq hg.2 bb.size,cJ S.row.own (.inl (aA ds))⟩);have eq:=O dv;clear dv;refine bE I (λK' u=>?_);rw[jA aj];refine Ca _ _ I M (jb pv m cv) m _ I ad.row.own _ 1 [N T vk,N T ve,N T bk,jb pb b2 cb] I (eU z3 [N T vk,N T ve,N T bk,jb pb b2 cb] 54 (0,0) 4 1 1 I (jw _)) (by simp[kl]) Y ad.row.sz' λv' z7 Sd=>?_
   have Tx:=eP ad.row.box Sd.grown (cJ ad.row.own (.inr Y));obtain⟨pn,cn,rfl⟩:=a8 Sd.own;have YM:=O Tx;have b5:=O Sd;have VU:=O ad;clear bI ad bb;refine u _ _ Tx λ_=>?_
   clear u Tx Sd;refine L ?_;refine cQ ?_;obtain⟨⟨vo,c3⟩,f3,-,-⟩:=cE (i:=37) (jb pn (m+1) cn) YM.out (by rw[bq];decide);refine g6 I (λK' u=>?_);go_simp;refine u _ _ ?_;have ca:=cP.push (i:=37) (x:=(⟨vk,ve,bk,b1⟩:Bx)) VU Y (by show ay _ _ _ 1 b1.length (b1.map v8);rw[<-Vf];exact eq) b5 (bo _ _);have cf:=(gZ (B0:=U2.heap.size) T7 b4).trans ((yx _ _ _).trans (yK VU.row b5 (i:=37)));refine⟨⟨cf,vz S.row.but ca.row.but cf.size Y Y⟩,R++[⟨vk,ve,bk,b1⟩],jb pn (m+1) cn,us++[jb pb b2 cb],c9 _ q.out,?_⟩;rw[j1,<-UR];exact ca
  case done=>
   rintro D2 xs W hD ⟨TE,a5⟩ ⟨R,vr,us,al,Q⟩ bg;rw[TE]at al;obtain⟨ct,cz,rfl⟩:=a8 Q.row.own;have a1:=Q.row.but;replace j:=j.out;rw[al,jH]at j;replace j:=O j;have Wx:aM (f+1) U2.heap.size U2 W:=by rw[<-HM];exact a1
   have e4:A (bj f W (f+2) lg):=O (eb.keep (Wx.block (f+2) eb.lt Y) (λk hk=>Wx.block k (bL eb.lt) Y));have er:=e1;have ec:A (W.heap[f+1]?=ja (jd (av c6 ⟨jb bK r1.length bM,jb ck ip.length cm,jb ct R.length cz,jb jc 0 0⟩).toArray 63 (0,0))):=O (by have h:=Q.row.box;rw[bs]at h;exact h);have hO:=Ua _ _ cw.out (Kp.ofC Wx);have e5:A (f+3<=W.heap.size):=O (jS cq a1.size);have Yg:(D2::[D1]).Nodup:=km.2 ⟨λh=>by have D:=((H _ cw.out).2 D2 h).1;have:=(jy.1 D).1;omega,T9⟩;have bh:D2≠f+1/\D2≠f+2/\w.heap.size<=D2:=by have:=cq.out;have:=Ys.out;omega
   obtain⟨H2,bN⟩:=J W.heap.size;obtain⟨M2,bO⟩:=J M;obtain⟨r2,cj⟩:=J R;rw[<-cj]at Q j ec;rw[<-bO]at Q;have RJ:∃us,ay (λg=>M2<=g/\g<W.heap.size) W (jb ct r2.length cz) 4 r2.length (dm Bx.cells r2 us)/\cD (λg=>M2<=g/\g<W.heap.size) W (r2.map Bx.body) us:=Q.slice I (λg h1 D=>⟨h1,D⟩);obtain⟨O2,TM⟩:∃VK:jj->Prop,VK=λx=>(Op x/\x.heap[D2]?=ja (.deferred (ja [])))/\(H2<=x.heap.size/\∃us,ay (λg=>M2<=g/\g<H2) x (jb ct r2.length cz) 4 r2.length (dm Bx.cells r2 us)/\cD (λg=>M2<=g/\g<H2) x (r2.map Bx.body) us):=⟨_,I⟩
   have bT:A (gW (f+1) (f+2) O2):=O (by rw[TM];exact(Ua.and (zC bh.1 bh.2.1)).and (BK (aA SS) (aA SS)));have b0:A (∀x,O2 x->jr w w x/\∀D'∈D2::[D1],x.heap[D']?=ja (.deferred (ja []))/\w.heap.size<=D'):=O (by
    rw[TM];intro x h;refine⟨(H x h.1.1).1,λD' db=>?_⟩
    rcases jP.1 db with rfl|D
    ·exact⟨h.1.2,bh.2.2⟩
    exact(H x h.1.1).2 D' D)
   have SO:A (∀x,O2 x->H2<=x.heap.size/\∃us,ay (λg=>M2<=g/\g<H2) x (jb ct r2.length cz) 4 r2.length (dm Bx.cells r2 us)/\cD (λg=>M2<=g/\g<H2) x (r2.map Bx.body) us):=O (by rw[TM];exact λx h=>h.2);have cp:=O (λx (h:O2 x)=>VV x (by rw[TM]at h;exact h.1.1));replace VV:=cp;clear cp;have ea:=O (λx (h:O2 x)=>dd x (by rw[TM]at h;exact h.1.1));replace dd:=ea;clear ea;have e6:A (O2 W):=O (by rw[TM,bN];exact⟨⟨hO,bg⟩,jw _,RJ⟩);have Ta:A (f+3<=M2/\M2<=H2):=O ⟨by rw[bO];exact SS,by rw[bN];exact Q.row.sz'⟩;replace T9:=O Yg;replace Ua:=bT;replace H:=b0;clear Q a1 Wx hO bh RJ bN TM Yg bT b0 eb cw e1 UG RE ZI VN br bn bo bq bs SS HM cq TE a5 al bO cj hD bg;rename jj=>ZO;refine bl _ _ ?_;clear bl K1;refine gP λK1 bl=>gP λK2 e0=>iN ?_
   have t:=O (yI f (f+2) Y lg ZO e4 er.len);obtain⟨y,o⟩:=J (rL lg);have E:=O (λr (h:y=ja r)=>er.rL (r:=r) (by rw[<-o];exact h));rw[<-o]at t j;clear o
   go_wp2_with fail
   refine t.mono ?_;rintro e Uq ⟨n,P⟩;have e1:=O ((n.block (f+1) (jy.1 ec).1 Y).trans ec);have cq:=O (Ua _ _ e6.out (Kp.ofR n));have b4:A (f+3<=Uq.heap.size):=O (jS e5 n.size);clear n t e6 ec e4 er e5
   rcases y with _|r
   ·obtain rfl:e=.panicked b9:=P
    have F:ov=jc:=j.out;exact gj (Ds:=[D2,D1]) F (H _ cq.out).1 T9 (H _ cq.out).2
   obtain⟨cw,lh⟩:=r;obtain⟨⟨B,ul,rfl,c7,cd,a4⟩,z⟩:=P;replace a4:aw (·<f) Uq (vL cw) ul:=a4;have bc:=E _ I;have eb:A (bj f Uq (f+2) lh):=O z;have ec:A (bF lh):=O bc.2;have UG:A (bF cw):=O bc.1;replace j:=j.out;rw[jH]at j;replace j:=O j;dsimp only at j;have RE:=O cd;have ZI:=O a4;clear z E bc c7 cd a4
   go_wp2_with fail
   refine wQ ?_;obtain⟨M,hM⟩:=J Uq.heap.size;have SS:A (f+3<=M):=O (by rw[hM];exact b4);have HM:=O hM;obtain⟨U,Vn⟩:∃cs:jo->ju jo,cs=λv=>(av c6 ⟨jb bK r1.length bM,jb ck ip.length cm,jb ct r2.length cz,v⟩).toArray:=⟨_,I⟩
   have bn:A (∀v,(U v)[38]?=ja v):=O (λv=>by rw[Vn];exact(lQ _ _ _ _ _ V.1 V.2).2.2.1);have bo:A (∀v x,(U v).setIfInBounds 38 x=U x):=O (λv x=>by rw[Vn];exact wP _ _ _ _ _ _ V.1);have bq:A (∀v,(U v).size=73):=O (λv=>by rw[Vn];exact gK _ _ V.1 V.2);have br:A (Uq.heap[f+1]?=ja (jd (U (jb jc 0 0)) 63 (0,0))):=O (by rw[Vn];exact e1);have bs:=O Vn;have VN:A (cB rWl cw=jc->ov=jc):=O (λh=>by have D:=j.out;rw[h]at D;exact D);clear hM Vn e1;refine yb (fd:=Tryz.f73) (gf:=204) (lb:=#[jB (ja ⟨B,0,jc⟩)]) func73 I (enters_of func204 ag I)
    (wD (N0:=f) (n₀:=f) (m₀:=M) (jw _) cw UG.len B ul Uq (aA b4) (by rw[HM];exact jw _) RE ZI) (aA b4) (λ_=>rfl) (yW (aA b4) cw)
    (λRF W=>∃R vr us,cB rWl (RF.map (·.2))=ja R/\cP M (f+1) 63 104 3 Wl.cells Wl.body U Uq W R.length vr R us) (λch W=>ch=b9/\ov=jc/\aM (f+1) M Uq W)
    (by rintro RF a2 B' ⟨R,vr,us,h1,D⟩ ht;exact⟨R,vr,us,h1,D.rolls (by rw[HM];exact jw _) ht⟩)
    ⟨[],jb jc 0 0,[],rfl,cP.start br.out (by rw[HM];exact jw _)⟩
    (λtm x=>(tm.setIfInBounds 62 (jB (ja ⟨x.1,0,jc⟩))).setIfInBounds 7 (jB (ja ⟨x.1,0,jc⟩))) ?assign ?body ?done ?panic
   case assign=>
    intro l' x a2 K u
    gi_wp2
    exact u
   case panic=>
    rintro K ch W hD hP bg;have F:ch=b9/\ov=jc/\aM (f+1) M Uq W:=by
     rcases hP with h|⟨RF,⟨rfl,v,r,e,hk⟩,R,vr,us,h1,D⟩
     ·exact h
     exact⟨I,VN.out (by rw[e];exact nG (.inl hk) h1),D.row.but⟩
    obtain⟨rfl,F,a1⟩:=F;have hO:=Ua _ _ cq.out (Kp.ofC (by rw[<-HM];exact a1));have Yg:(K::[D2,D1]).Nodup:=km.2 ⟨λh=>by have D:=((H _ cq.out).2 K h).1;have:=(jy.1 D).1;omega,T9⟩;exact gj (Ds:=K::[D2,D1]) F (H _ hO).1 Yg (λD' h=>by
     rcases jP.1 h with rfl|h
     ·exact⟨bg,by have:=b4.out;have:=Ys.out;omega⟩
     exact(H _ hO).2 D' h)
   case body=>
    rintro l' RF ⟨X,xv⟩ a2 ⟨R,vr,us,al,Q⟩ ⟨-,⟨rr,Vy⟩,hx⟩ bf ⟨T0,Vz⟩;obtain⟨a5,c8,Z0⟩:=hx RF (X,xv) I;dsimp only at a5 c8 Z0 Vy;simp only[j8,mT,lo,ol,mF,mz]at Vy;obtain⟨pX,e2,uX,bu,-,-⟩:=id Z0;obtain⟨pv,cv,rfl⟩:=a8 Q.row.own;have bv:A (bF xv.l):=O (UG.mem (by rw[Vy];simp));obtain⟨m,P⟩:=J R.length;have eg:m<=1000000:=by
     have h1:=tv al;have D:=jX j9 Vy;have h3:=UG.len;simp at h1 D;omega
    obtain⟨oc,ba⟩:=J (rWl xv.l);have SP:A (oc=jc->ov=jc):=O (λh=>VN.out (by rw[Vy];exact nG (.inr (by rw[<-ba];exact h)) al));have c9:A (∀c,oc=ja c->cB rWl ((RF++[(X,xv)]).map (·.2))=ja (R++[c])):=O (λc h=>by rw[j8];exact sP al a5 (by rw[<-ba];exact h));obtain⟨l0,b3⟩:=J xv.l;rw[<-b3]at ba bv Z0 bu;have q:A (oc=(rI l0).bind λa=>(rW a.2).map λw=>⟨a.1,w.1.1,w.1.2⟩):=O ba;rw[<-P]at Q;have UR:=O P;have T7:=O bu;have S:=O Q;obtain⟨z0,RQ⟩:=J a2.drew;have Y7:A (z0.heap[f+1]?=ja (jd (U (jb pv m cv)) 63 (0,0))):=O (by rw[RQ];exact Q.row.box);have bw:A (bj f z0 X l0):=O (Z0.keep (by rw[RQ];rfl) (λk _=>by rw[RQ];rfl));have bA:=bv;have bd:A (aM X a2.heap.size a2 z0):=O (by rw[RQ];exact⟨I,I,I,jw _,λ_ _ _=>rfl⟩);have YV:A (M<=a2.heap.size):=O Q.row.sz';have ej:=SS.out;clear al Vy hx Vz a5 Z0 bu P ba b3 Q bv bf VN j RE ZI;refine wpIn_block ?_;dsimp only;simp only[oo,ow,o4];refine uo (λW'=>W'.heap[f+1]?=ja (jd (U (jb pv m cv)) 63 (0,0))) 10 [(0,jh),(1,jh),(2,jh),(4,jh),(3,jp),(5,jp),(6,jh),(7,jp),(8,jp),(9,jh),(10,jp)] ag ag ag ag I (λc a d v w h=>⟨by have:=h.1;rwa [put_defers]at this,h.2⟩) (fun⟨_,_,h⟩=>h) (by rw[<-RQ];exact Y7) ?_;rw[<-RQ];clear RQ;refine cQ ?_
    (refine dY (v:=?_) I aj (λW' hS=>?_) ?_;rotate_left;(have ek:=ae hS (bn _);go_simp;with_reducible rfl);refine L ?_)
    iterate 2 refine cQ ?_
    refine bE I (λK' u=>?_);go_simp;have t:=O (fY f X Y l0 z0 bw bA.len);obtain⟨y,o⟩:=J (rI l0);have E:=O (λr (h:y=ja r)=>bA.rI (r:=r) (by rw[<-o];exact h));rw[<-o]at t q;clear o;refine t.mono ?_;rintro e z1 ⟨n,aa⟩;have Ym:=O (bd.trans n bd.size);have ZY:=O ((n.block (f+1) (jy.1 Y7).1 Y).trans Y7);clear n t bd Y7 bw bA
    rcases y with _|r
    ·obtain rfl:e=.panicked b9:=aa
     have F:ov=jc:=SP q;exact⟨I,gZ T7 Ym,I,F,iE S.row.but Ym Y YV⟩
    obtain⟨vk,l1⟩:=r;obtain⟨rfl,z⟩:=aa;have bB:A (bj f z1 X l1):=O z;have bC:A (bF l1):=O (E _ I);replace q:=q.out;rw[jH]at q;replace q:=O q;dsimp only at q;refine u _ _ ZY.out λ_=>?_
    clear u z E;refine L ?_;refine bE I (λK' u=>?_);go_simp;have t:=O (ER f X Y l1 z1 bB bC.len);obtain⟨y,o⟩:=J (rW l1);have E:=O (λr (h:y=ja r)=>bC.rW (r:=r) (by rw[<-o];exact h));rw[<-o]at t q;clear o;refine t.mono ?_;rintro e z2 ⟨n,aa⟩;have ZX:=O (Ym.trans n Ym.size);have bm:=O ((n.block (f+1) (jy.1 ZY).1 Y).trans ZY);have ds:=O Ym.size;clear n t Ym ZY bB bC
    rcases y with _|r
    ·obtain rfl:e=.panicked b9:=aa
     have F:ov=jc:=SP q;exact⟨I,gZ T7 ZX,I,F,iE S.row.but ZX Y YV⟩
    obtain⟨vw,l2⟩:=r;obtain⟨⟨ub,rfl,cx⟩,z⟩:=aa;obtain⟨pb,cb,rfl⟩:=cx.form;have UX:=O cx;obtain⟨bk,b1⟩:=vw;dsimp only at UX q z⊢;obtain⟨b2,cy⟩:=J b1.length;rw[<-cy]at UX⊢;have Vf:=O cy;clear cy cx;have cL:A (bj f z2 X l2):=O z;have ce:A (bF l2):=O (E _ I);replace q:=q.out;rw[lr]at q;replace q:=O q;dsimp only at q;refine u _ _ bm.out λ_=>?_
    clear u z E;refine L ?_;refine cQ ?_;refine bE I (λK' u=>?_);go_simp;refine u _ _ (az bm (ai _ _)) λ_=>?_
    clear u;refine L ?_;have bI:=S.laterX Y Y T7 G ZX;have bb:=ai z2 (jd #[N T vk,N T bk,jb pb b2 cb] 104);have ad:=bI.later Y bb;have dv:=(ay.keep UX (λg hg=>bb.block g hg.2)).mono (D':=λg=>M<=g/\g<(z2.alloc (jd #[N T vk,N T bk,jb pb b2 cb] 104)).heap.size/\(pz pv m cv).ownBlock≠ja g) (λg hg=>⟨by have:=ds.out;have:=YV.out;omega,jq hg.2 bb.size,cJ S.row.own (.inl (aA ds))⟩);have eq:=O dv;clear dv;refine bE I (λK' u=>?_);rw[jA aj];refine Bq _ _ I M (jb pv m cv) m _ I ad.row.own _ 1 [N T vk,N T bk,jb pb b2 cb] I (eU z2 [N T vk,N T bk,jb pb b2 cb] 104 (0,0) 3 1 1 I (jw _)) (by simp[kl]) Y ad.row.sz' λv' z7 Sd=>?_
    have Tx:=eP ad.row.box Sd.grown (cJ ad.row.own (.inr Y));obtain⟨pn,cn,rfl⟩:=a8 Sd.own;have YM:=O Tx;have b5:=O Sd;have VU:=O ad;clear bI ad bb;refine u _ _ Tx λ_=>?_
    clear u Tx Sd;refine L ?_;refine cQ ?_;obtain⟨⟨vo,c3⟩,f3,-,-⟩:=cE (i:=38) (jb pn (m+1) cn) YM.out (by rw[bq];decide);refine g6 I (λK' u=>?_);go_simp;refine u _ _ ?_;have ca:=cP.push (i:=38) (x:=(⟨vk,bk,b1⟩:Wl)) VU Y (by show ay _ _ _ 1 b1.length (b1.map v8);rw[<-Vf];exact eq) b5 (bo _ _);have cf:=(gZ (B0:=Uq.heap.size) T7 ZX).trans ((yx _ _ _).trans (yK VU.row b5 (i:=38)));refine⟨⟨cf,vz S.row.but ca.row.but cf.size Y Y⟩,R++[⟨vk,bk,b1⟩],jb pn (m+1) cn,us++[jb pb b2 cb],c9 _ q.out,?_⟩;rw[j1,<-UR];exact ca
   case done=>
    rintro K xs W hD ⟨TE,a5⟩ ⟨R,vr,us,al,Q⟩ bg;rw[TE]at al;obtain⟨aa,ad,rfl⟩:=a8 Q.row.own;have a1:=Q.row.but;replace j:=j.out;rw[al,jH]at j;replace j:=O j;have Wx:aM (f+1) Uq.heap.size Uq W:=by rw[<-HM];exact a1
    have ba:A (bj f W (f+2) lh):=O (eb.keep (Wx.block (f+2) eb.lt Y) (λk hk=>Wx.block k (bL eb.lt) Y));have a4:=ec;have d:A (W.heap[f+1]?=ja (jd (av c6 ⟨jb bK r1.length bM,jb ck ip.length cm,jb ct r2.length cz,jb aa R.length ad⟩).toArray 63 (0,0))):=O (by have h:=Q.row.box;rw[bs]at h;exact h);have hO:=Ua _ _ cq.out (Kp.ofC Wx);have bu:A (f+3<=W.heap.size):=O (jS b4 a1.size);have Yg:(K::[D2,D1]).Nodup:=km.2 ⟨λh=>by have D:=((H _ cq.out).2 K h).1;have:=(jy.1 D).1;omega,T9⟩;have bh:K≠f+1/\K≠f+2/\w.heap.size<=K:=by have:=b4.out;have:=Ys.out;omega
    obtain⟨H3,bN⟩:=J W.heap.size;obtain⟨M3,bO⟩:=J M;obtain⟨X,cj⟩:=J R;rw[<-cj]at Q j d;rw[<-bO]at Q;have RJ:∃us,ay (λg=>M3<=g/\g<W.heap.size) W (jb aa X.length ad) 3 X.length (dm Wl.cells X us)/\cD (λg=>M3<=g/\g<W.heap.size) W (X.map Wl.body) us:=Q.slice I (λg h1 D=>⟨h1,D⟩);obtain⟨O3,TM⟩:∃VK:jj->Prop,VK=λx=>(O2 x/\x.heap[K]?=ja (.deferred (ja [])))/\(H3<=x.heap.size/\∃us,ay (λg=>M3<=g/\g<H3) x (jb aa X.length ad) 3 X.length (dm Wl.cells X us)/\cD (λg=>M3<=g/\g<H3) x (X.map Wl.body) us):=⟨_,I⟩
    have bT:A (gW (f+1) (f+2) O3):=O (by rw[TM];exact(Ua.and (zC bh.1 bh.2.1)).and (BK (aA SS) (aA SS)));have b0:A (∀x,O3 x->jr w w x/\∀D'∈K::[D2,D1],x.heap[D']?=ja (.deferred (ja []))/\w.heap.size<=D'):=O (by
     rw[TM];intro x h;refine⟨(H x h.1.1).1,λD' db=>?_⟩
     rcases jP.1 db with rfl|D
     ·exact⟨h.1.2,bh.2.2⟩
     exact(H x h.1.1).2 D' D)
    have bk:A (∀x,O3 x->H3<=x.heap.size/\∃us,ay (λg=>M3<=g/\g<H3) x (jb aa X.length ad) 3 X.length (dm Wl.cells X us)/\cD (λg=>M3<=g/\g<H3) x (X.map Wl.body) us):=O (by rw[TM];exact λx h=>h.2);have cp:=O (λx (h:O3 x)=>VV x (by rw[TM]at h;exact h.1.1));replace VV:=cp;clear cp;have ea:=O (λx (h:O3 x)=>dd x (by rw[TM]at h;exact h.1.1));replace dd:=ea;clear ea;have q:=O (λx (h:O3 x)=>SO x (by rw[TM]at h;exact h.1.1));replace SO:=q;clear q;have bb:A (O3 W):=O (by rw[TM,bN];exact⟨⟨hO,bg⟩,jw _,RJ⟩);have Tq:A (f+3<=M3/\M3<=H3):=O ⟨by rw[bO];exact SS,by rw[bN];exact Q.row.sz'⟩;replace T9:=O Yg;replace Ua:=bT;replace H:=b0;clear Q a1 Wx hO bh RJ bN TM Yg bT b0 eb cq ec UG RE ZI VN br bn bo bq bs SS HM b4 TE a5 al bO cj hD bg;rename jj=>x14;refine bl _ _ ?_;clear bl K1;refine gP λK1 bl=>iN ?_
    obtain⟨Q,al⟩:∃q:CQ,q=⟨jb bK r1.length bM,jb ck ip.length cm,jb ct r2.length cz,jb aa X.length ad⟩:=⟨_,I⟩;rw[<-al]at d;have bc:=O al;clear al;have t:=O (CL (f) (f+2) Y lh x14 ba a4.len);obtain⟨y,o⟩:=J (rD lh);have E:=O (λr (h:y=ja r)=>a4.rD (r:=r) (by rw[<-o];exact h));rw[<-o]at t j;have T4:A (∀r,y=ja r->r.1.length=32):=O (λr h=>(uZ (by rw[<-o];exact h)).2);clear o
    go_wp2_with fail
    refine t.mono ?_;rintro e Zm ⟨n,P⟩;have a5:=O ((n.block (f+1) (jy.1 d).1 Y).trans d);have a2:=O (Ua _ _ bb.out (Kp.ofR n));clear n t bb d ba a4
    rcases y with _|r
    ·obtain rfl:e=.panicked b9:=P
     have F:ov=jc:=j.out;exact gj (Ds:=[K,D2,D1]) F (H _ a2.out).1 T9 (H _ a2.out).2
    obtain⟨d,li⟩:=r;obtain⟨rfl,z⟩:=P;have a4:A (bj f Zm (f+2) li):=O z;have bd:A (bF li):=O (E _ I);replace j:=j.out;rw[jH]at j;replace j:=O j;dsimp only at j;clear z E;have al:A (d.length=32):=O (T4 _ I);clear T4;have bf:(jm.info? 23).map (·.size)=ja (d.map v8).toArray.size:=by rw[show(d.map v8).toArray.size=(d.map v8).length from j3 ..,jN,al];kernel_rfl
    have cX:Zm.there (f+1) 39 (d.map v8).toArray.size:=mW a5.out (by rw[gK _ _ V.1 V.2,show(d.map v8).toArray.size=(d.map v8).length from j3 ..,jN,al];decide);have g2:=zQ (d.map v8) 39 _ _ a5.out;rw[Q0 _ _ _ V.1 V.2 al]at g2;have SH:=Gv (f+1) Zm.heap.size (d.map v8) 39 Zm;have ba:=O g2;have bb:=O (a4.keep (w':=Zm.setCells (f+1) 39 (d.map v8)) (SH.block (f+2) a4.lt Y) (λk hk=>SH.block k (bL a4.lt) Y));have k:=O (Ua _ _ a2.out (Kp.ofC SH));have cA:=O cX;have Sb:=O bf;clear g2 SH cX bf a5 a4 a2;have a5:=bd;clear bd
    go_wp2_with (refine jt I λ_ u=>qh 23 _ _ I (f+1) 39 (d.map v8).toArray I I cA Sb (ee d) (u _ _ ?_);rw[show(d.map v8).toArray.toList=d.map v8 from I])
    generalize Zm.setCells (f+1) 39 (d.map v8)=bm at ba bb k⊢;have a2:=ba;have bd:=bb;have bh:=k;clear ba bb k cA Sb;obtain⟨c7,a4⟩:∃c:aD,c={c6 with confirm:=d}:=⟨_,I⟩;rw[<-a4]at a2;have bn:=O a4;have k:A (c7.parent.length=32/\c7.confirm.length=32):=O (by rw[a4];exact⟨V.1,al⟩);clear a4;refine gP λK1 bl=>iN ?_
    have t:=O (fY (f) (f+2) Y li bm bd a5.len);obtain⟨y,o⟩:=J (rI li);have E:=O (λr (h:y=ja r)=>a5.rI (r:=r) (by rw[<-o];exact h));rw[<-o]at t j;clear o
    go_wp2_with fail
    refine t.mono ?_;rintro e bb ⟨n,P⟩;have ba:=O ((n.block (f+1) (jy.1 a2).1 Y).trans a2);have a4:=O (Ua _ _ bh.out (Kp.ofR n));clear n t bh a2 bd a5
    rcases y with _|r
    ·obtain rfl:e=.panicked b9:=P
     have F:ov=jc:=j.out;exact gj (Ds:=[K,D2,D1]) F (H _ a4.out).1 T9 (H _ a4.out).2
    obtain⟨vr,lj⟩:=r;obtain⟨rfl,z⟩:=P;have bd:A (bj f bb (f+2) lj):=O z;have a5:A (bF lj):=O (E _ I);replace j:=j.out;rw[jH]at j;replace j:=O j;dsimp only at j;clear z E;have t:=O (fY (f) (f+2) Y lj bb bd a5.len);obtain⟨y,o⟩:=J (rI lj);have E:=O (λr (h:y=ja r)=>a5.rI (r:=r) (by rw[<-o];exact h));rw[<-o]at t j;clear o
    go_wp2_with fail
    refine t.mono ?_;rintro e o ⟨n,P⟩;have bh:=O ((n.block (f+1) (jy.1 ba).1 Y).trans ba);have a2:=O (Ua _ _ a4.out (Kp.ofR n));clear n t a4 ba bd a5
    rcases y with _|r
    ·obtain rfl:e=.panicked b9:=P
     have F:ov=jc:=j.out;exact gj (Ds:=[K,D2,D1]) F (H _ a2.out).1 T9 (H _ a2.out).2
    obtain⟨n,lk⟩:=r;obtain⟨rfl,z⟩:=P;have t:A (bj f o (f+2) lk):=O z;have a4:A (bF lk):=O (E _ I);replace j:=j.out;rw[lr]at j;replace j:=O j;dsimp only at j;clear z E;have cc:=fun(c:aD) (q:CQ) (h1:c.parent.length=32) (D:c.confirm.length=32)=>gK c q h1 D
    obtain⟨⟨v0,c0⟩,f0,g0,o0⟩:=cE (i:=71) (N T vr) bh.out (by rw[cc _ _ k.1 k.2];decide);rw[PD _ _ _ k.1 k.2]at g0;obtain⟨⟨v1,c1⟩,f1,g1,o1⟩:=cE (i:=72) (N T n) g0 (by rw[cc {c7 with r:=vr} Q k.1 k.2];decide);rw[Qm {c7 with r:=vr} Q n k.1 k.2]at g1;have SH:aM (f+1) o.heap.size o ((o.setCell ⟨f+1,71,jc⟩ (N T vr)).setCell ⟨f+1,72,jc⟩ (N T n)):=(rh (f+1) o.heap.size 71 (N T vr) o).trans (rh (f+1) o.heap.size 72 (N T n) _) (jw _);have z:=O g1;have F:=O (Ua _ _ a2.out (Kp.ofC SH));clear g0 g1 o0 o1 SH bh t a2 a4 cc
    go_wp2_with fail
    generalize(o.setCell ⟨f+1,71,jc⟩ (N T vr)).setCell ⟨f+1,72,jc⟩ (N T n)=a5 at z F⊢;have E:=z;have t:=F;clear z F c0 f0 c1 f1;obtain⟨z,F⟩:∃c:aD,c=⟨va,vb,vp,vd,r1,ip,r2,X,d,vr,n⟩:=⟨_,I⟩;have e8:av {c7 with r:=vr,s:=n} Q=av z Q:=by rw[F,bn,ez];rfl
    replace E:a5.heap[f+1]?=ja (jd (av z Q).toArray 63 (0,0)):=by rw[<-e8];exact E
    have a2:aF (λg=>w.heap.size<=g/\g<a5.heap.size) a5 z Q:=by
     rw[F,bc];have a4:=VV _ t.out;have ba:=dd _ t.out;obtain⟨s3,bd,bh,b3⟩:=SO _ t.out;obtain⟨s4,bo,bq,b4⟩:=bk _ t.out;have h0:=Ys.out;have h1:=Tr.out;have D:=fm.out;have h3:=Ta.out;have h4:=Tq.out;have h5:=V.1;refine⟨a4.2.mono λg hg=>?_,ba.2.mono λg hg=>?_,⟨bd,bh.mono λg hg=>?_,b3.mono λg hg=>?_⟩,⟨bo,bq.mono λg hg=>?_,b4.mono λg hg=>?_⟩,?_,al⟩
     ·exact⟨by omega,by omega⟩
     ·exact⟨by omega,by omega⟩
     ·exact⟨by omega,by omega⟩
     ·exact⟨by omega,by omega⟩
     ·exact⟨by omega,by omega⟩
     ·exact⟨by omega,by omega⟩
     have e:=jX aD.parent ez;rw[show({eR with folder:=va,epoch:=vb,parent:=vp,author:=vd}:aD).parent=vp from I]at e;rw[<-e];exact h5
    obtain⟨XR,g⟩:=J ((av z Q).toArray);have ba:=E;have bf:(jm.info? 63).map (·.size)=ja XR.size:=by rw[g,gK _ _ a2.plen a2.clen];exact fN
    have bd:XR.all (·.oneCell')=jh:=by rw[g,bc];exact nh _ _ _ _ _ _ _ _ _ _ _ _ _
    rw[<-g]at ba;have a4:=O ba;have Sb:=O bf;have Up:=O bd;have bo:=O a2;have bq:=O g;have bh:ov=ja z:=by rw[j,F]
    have Tl:=O bh;clear ba bf bd a2 g bh E e8 F j;refine iN ?_
    go_wp2_with (first|(refine kw I 63 _ I (f+1) I 63 XR (0,0) _ a4.out jT I Sb ?_)|(refine jt I λ_ u=>jE 63 _ _ I (f+1) XR I I 63 _ a4.out Sb I Up (u _ _ ?_)))
    rw[dR a4];exact IJ (C:=f+1) (Ds:=[K,D2,D1]) Tl (H _ t.out).1 T9 (H _ t.out).2 (by rw[<-bq];exact a4) I bo
end
theorem Fv{P:mb}{fn:Func}{p q:Tmp}{c f:j6}(h:fn.results= #[.cell p c,.cell q f])(tmps:ju jo)(w:jj)(g i:jk)(t:j6)(cs:ju jo)(x:jo)(fr:jk×jk)(d:TypeDesc)
 (j:tmps.getD p je=jB (ja ⟨g,0,jc⟩)) (k:tmps.getD q je=jB (ja ⟨i,0,jc⟩)) (l:w.heap[g]?=ja (jd cs t fr)) (m:(loadVar f ⟨i,0,jc⟩).run P w=.ok x w)
 (n:P.underlying c=ja d) (o:(match d with| .struct _ | .array _ _=>jh|_=>jp)=jh) (r:(P.info? c).map (·.size)=ja cs.size):
 (results fn tmps).run P w=.ok (jC #[jf cs,x]) w:=by
 have e:(results fn tmps).run P w=((asAddr (tmps.getD p je)).run P w).andThen λa s=>((loadVar c a).run P s).andThen λv u=>((asAddr (tmps.getD q je)).run P u).andThen λb y=>((loadVar f b).run P y).andThen λz B=>.ok (jC #[v,z]) B:=by
  simp only[results,h];simp[Sem.run_bind,Result.andThen]
 rw[e,j];simp only[asAddr,Sem.run_pure,Result.andThen_ok,run_loadVar_row w g t c cs fr d l n o r,k,m]
theorem Cx{g:j6}{n:jk×jk}(h:w.heap[C]?=ja (jd #[N T f] g n)):(loadVar 36 ⟨C,0,jc⟩).run jm w=.ok (N T f) w:=by
 have c:=ae (i:=0) h I;go_simp
def ZC:ju jo:=(av eR fX).toArray
theorem ng:(jm.info? 63).map (·.size)=ja ZC.size:=by kernel_rfl
theorem o6:ZC.size=73:=by rfl
theorem sd:ZC.all (·.oneCell')=jh:=nh eR jc jc jc jc 0 0 0 0 0 0 0 0
theorem Cc(w:jj):(Instr.build 63 #[]).run jm w=.ok (jf ZC) w:=by
 unfold Instr.build;go_simp
 rfl
theorem Om:∀W,(Instr.typeAssert (.iface 133 (jf #[])) 20 133 jh).run jm W=.ok (jC #[jf #[],.bool jh]) W:=λ_=>by kernel_rfl
theorem zJ(C E:jk)(w:jj):CallsD jm 72 #[jB (ja ⟨C,0,jc⟩),jB (ja ⟨E,0,jc⟩)] .returning w λe b w'=>e=jv (jC #[])/\b=.returning/\w'=w:=by
 refine callsD_of_wpS func72 I λc cs a=>?_
 apply wpS_seq
 apply n0
 simp[wpOpsS,go_sem,recoverD,a,ntmps72,Exit.thenS]
 apply wpS_seq
 apply n0
 simp[wpOpsS,go_sem,recoverD,a,ntmps72,Exit.thenS];refine wpS_cond (t:=jp) (by simp[Act.eval,j7]) ?_;simp only[Bool.false_eq_true,if_false];refine wpS_of_wp (wp_skip ?_)
 cases c
 simp_all [bodyPostS,results,results72]
theorem IE(C E:jk)(l:C≠E)(g:ju jo)(s:g.size=73)(x:jo)(m:jn PanicEntry)(w:jj)(d:w.heap[C]?=ja (jd g 63 (0,0)))(f:w.heap[E]?=ja (jd #[x] 36 (0,0))):
 CallsD jm 72 #[jB (ja ⟨C,0,jc⟩),jB (ja ⟨E,0,jc⟩)] (.panicking ({v:=.iface 133 (jf #[]),recovered:=jp}::m)) w λe u w'=>
  e=jv (jC #[])/\u=.panicking ({v:=.iface 133 (jf #[]),recovered:=jh}::m)/\w'.heap[C]?=ja (jd ZC 63 (0,0))/\w'.heap[E]?=ja (jd #[N T 220] 36 (0,0))/\
  (w'.os=w.os/\w'.tape=w.tape/\w'.output=w.output/\w.heap.size<=w'.heap.size/\∀k,k<w.heap.size->k≠C->k≠E->w'.heap[k]?=w.heap[k]?):=by
 refine callsD_of_wpS func72 I λy cs n=>?_
 apply wpS_seq
 apply n0
 simp[wpOpsS,go_sem,recoverD,n,ntmps72,Exit.thenS]
 apply wpS_seq
 apply n0
 simp[wpOpsS,go_sem,recoverD,n,ntmps72,Exit.thenS];refine wpS_cond (t:=jh) (by simp[Act.eval,j7]) ?_;simp only[if_true];refine wpS_of_wp (show Code.wp _ _ _ {tmps:=#[jB (ja ⟨C,0,jc⟩),jB (ja ⟨E,0,jc⟩),.iface 133 (jf #[]),je,je,.iface 133 (jf #[]),.iface 133 (jf #[]),.bool jh,je,je,je,je,je,je,je,je,je],defers:=[]} _ from ?_);have z:=Om;have B:=Cc;have c:=ai w (jd #[] 133);obtain⟨a,h⟩:=J (w.alloc (jd #[] 133));rw[<-h]at c;have o:=(c.block C (jy.1 d).1).trans d;have p:=(c.block E (jy.1 f).1).trans f;have j:=O o;have q:=O p;have b:=O c;have r:=O h;have D:=O (jy.1 d).1;clear d f o p c h
 go_upto_region 3 with fail
 rw[<-r];clear r;have o:=(jO a C E ZC (Ne.symm l)).trans q;obtain⟨⟨S,F⟩,H,d,h⟩:=cE (i:=0) (N T 220) o ax;have f:=(h.block C l).trans (jJ a C _ ZC _ _ j.out);have p:=O f;have r:=O d;have c:=O h;clear o d h f
 go_wp2_with (refine jt I λ_ h=>jE 63 _ _ I C ZC I I 63 g j ng (s.trans o6.symm) sd (h _ _ ?_))
 have f:=p.out;have d:=r.out;have h:∀k,k<w.heap.size->k≠C->k≠E->((a.setRow C ZC).setCell ⟨E,0,jc⟩ (N T 220)).heap[k]?=w.heap[k]?:=λk hk o K=>(c.block k K).trans ((jO _ _ _ _ o).trans (b.block k hk))
 have M:w.heap.size<=((a.setRow C ZC).setCell ⟨E,0,jc⟩ (N T 220)).heap.size:=by rw[c.size,show(a.setRow C ZC).heap.size=a.heap.size by simp[m0]];exact b.size
 have P:=c.os.trans b.os;have Q:=c.tape.trans b.tape;have R:=c.output.trans b.output;generalize(a.setRow C ZC).setCell ⟨E,0,jc⟩ (N T 220)=U at f d h M P Q R⊢;clear F H c p r b j q D z B
 cases y
 simp_all [bodyPostS,results,results72]
def A4(w:jj)(o:jW aD)(e:Ending)(w':jj):Prop:=
 jr w w w'/\match o with
  |some c=>∃q,e=jv (jC #[jf (av c q).toArray,N T 0])/\aF (λg=>w.heap.size<=g/\g<w'.heap.size) w' c q
  |none=>∃n:jl,n≠0/\e=jv (jC #[jf (av eR fX).toArray,N T n])
theorem KD{m:af}{j:Val}(i:m.length<=800000)(h:dec m=ja j):bF j.l:=by
 obtain⟨e,c⟩:=Az Y h;obtain⟨k,n,s,a⟩:=j
 by_cases hk:k=3
 ·subst hk
  obtain⟨g,-,-,-,b⟩:=pj c I;refine⟨g,b,?_⟩;have d:enc (.mk 3 n s a)=3#8::(bV a.length++encs a):=by rw[enc,jG G,jG G]
  rw[d]at e;have f:=jX j9 e;rw[oj,j1]at f;show(encs a).length<=_;omega
 have e:a=[]:=by
  rw[aU]at c
  rcases c with⟨-,-,-,-,b⟩|⟨-,-,-,b⟩|⟨b,-⟩<;>first|exact b|exact js b hk
 subst e;exact⟨0,(λy b=>by cases b),by show(encs []).length<=_;simp[encs]⟩
theorem ay.bytesL{m:af}(h:ay D w i 1 m.length (m.map v8)):aP w i m:=by
 obtain⟨-,p,c,b,d,f,v⟩:=h;refine⟨p,c,b,d,f,λk=>?_⟩;obtain⟨g,o,e,-,l⟩:=v k;refine⟨g,o,e,λj a=>l j _ ?_⟩;rw[qn,ms a];simp[v8,nn,a]
theorem tD{E:jk}{n:jl}{tmps:ju jo}(a:jr w w x)(b:x.heap[C]?=ja (jd ZC 63 (0,0)))(c:x.heap[E]?=ja (jd #[N T n] 36 (0,0)))(d:n≠0)
 (e:tmps.getD 2 je=jB (ja ⟨C,0,jc⟩)) (f:tmps.getD 3 je=jB (ja ⟨E,0,jc⟩)) {ov:jW aD} (g:ov=jc):Leaves jm Tryz.f21 tmps (A4 w ov) [] .returning x:=by
 subst g;exact⟨_,Fv I _ _ C E 63 ZC _ (0,0) _ e f b (Cx c) jT I ng,a,n,d,I⟩
theorem Rh(l:af)(p:jW Addr)(n c:jk)(w:jj)(hv:ay (·<w.heap.size) w (jb p n c) 1 l.length (l.map v8))(hl:l.length<=800000):
 jz jm 21 #[jb p n c] w (A4 w (lz l)):=by
 have bn:∀(fn:Fn) (first bf:ju jo) (w:jj),(Instr.makeFunc fn first bf).run jm w=.ok (.func fn first bf) w:=λ_ _ _ _=>rfl
 have bB:=Cc;obtain⟨ov,a⟩:=J (lz l);rw[<-a];have a5:A (dec l=jc->ov=jc):=O (λh=>by rw[a];unfold lz;rw[h];rfl);have Yr:A (∀v,dec l=ja v->ie v=jc->ov=jc):=O (λv h C=>by rw[a];unfold lz;rw[h,jH,C];rfl);have K:A (∀v c,dec l=ja v->ie v=ja c->fK c->enc (vL (aJ c))=l->ov=ja c):=O (λv c h C U b=>by rw[a];unfold lz;rw[h,jH,C,jH,jA ⟨U,b⟩]);have F:A (∀v c,dec l=ja v->ie v=ja c->¬(fK c/\enc (vL (aJ c))=l)->ov=jc):=O (λv c h C U=>by rw[a];unfold lz;rw[h,jH,C,jH,jG U]);clear a;have d:=jL w (jd ZC 63);have m:=ai w (jd ZC 63);have j:=jL (w.alloc (jd ZC 63)) (jd #[N T 0] 36);have o:=ai (w.alloc (jd ZC 63)) (jd #[N T 0] 36);obtain⟨x1,k⟩:=J ((w.alloc (jd ZC 63)).alloc (jd #[N T 0] 36));obtain⟨a,q⟩:=J w.heap.size;replace d:=az d o;rw[j4]at j;have e:=m.trans (o.mono m.size);rw[<-k,<-q]at d j;rw[<-k]at e;have t:ay (·<x1.heap.size) x1 (jb p n c) 1 l.length (l.map v8):=(hv.keep λg b=>e.block g b).mono λg (b:g<w.heap.size)=>jq b e.size
 have x:=O d;have UI:=O j;have RD:=O e;have y:=O k;have u:=O q;have HV:=O hv;have r:=O (Pf l p n c x1 t Y);obtain⟨od,s⟩:=J (dec l);rw[<-s]at r a5 Yr K F;have ad:=O s;clear d j m o e hv t k q s
 go_enter_defers func21,ntmps21
 go_upto_region 1 with fail
 refine CJ (w':=x1) (y.trans I) ?_;rw[<-u];clear y
 go_wp2_with fail
 refine r.mono ?_;rintro e y ⟨d,hm⟩;have R3:=Z x d;have W:=Z UI d;have t:=ac RD d;clear d r x
 rcases od with _|x
 ·obtain rfl:e=jv (jC #[jf dp,N T 10]):=hm
  have z:=a5 I;have P:=O z;have j:=ai y (jd dp 128);obtain⟨B,k⟩:=J (y.alloc (jd dp 128));rw[<-k]at j;have X:=az R3 j;have aa:=az W j;obtain⟨⟨v0,o⟩,r,al,m⟩:=cE (i:=0) (N T 10) aa ax;have au:=(m.block a Y).trans X;have a1:=(t.trans (j.mono t.size)).trans (m.below (aA u));have D:=O au;have q:A ((B.setCell ⟨a+1,0,jc⟩ (N T 10)).heap[a+1]?=ja (jd #[N T 10] 36 (0,0))):=O al;have H:=O a1;have E:=ae (i:=0) q I;have a2:=O k;have s:y.alloc (jd #[N T 0,N T 0,jR ⟨#[]⟩,jb jc 0 0] 128)=B:=k.symm;have HY:=O s;rw[a2]at o r E;clear z j X aa al m au a1 k s a5 Yr K F R3 W t bn;rw[show(jf dp:jo)=jf #[N T 0,N T 0,jR ⟨#[]⟩,jb jc 0 0]from I];have s:(y.alloc (jd #[N T 0,N T 0,jR ⟨#[]⟩,jb jc 0 0] 128)).cell? ⟨a+1,0,jc⟩=ja v0:=o;have M:(y.alloc (jd #[N T 0,N T 0,jR ⟨#[]⟩,jb jc 0 0] 128)).frozen? ⟨a+1,0,jc⟩=jp:=r;have Q:((y.alloc (jd #[N T 0,N T 0,jR ⟨#[]⟩,jb jc 0 0] 128)).setCell ⟨a+1,0,jc⟩ (N T 10)).cell? ⟨a+1,0,jc⟩=ja (N T 10):=E;clear o r E
  go_upto_region 3 with fail
  rw[HY];generalize B.setCell ⟨a+1,0,jc⟩ (N T 10)=x4 at D q H⊢;clear HY a2 s M Q;obtain⟨V,s⟩:=J x4.drew;have M:A (V.heap[a]?=ja (jd ZC 63 (0,0))):=O (by rw[s];exact D);have a3:A (V.heap[a+1]?=ja (jd #[N T 10] 36 (0,0))):=O (by rw[s];exact q);have ba:A (jr w w V):=O (by rw[s];exact H.trans ⟨I,I,I,jw _,λ_ _=>rfl⟩);refine jY ?_;refine bY (λQ=>Q.heap[a]?=ja (jd ZC 63 (0,0))/\Q.heap[a+1]?=ja (jd #[N T 10] 36 (0,0))) (.t 0 (.t 1 (.o 2 (.o 3 .done)))) ag ag ag G (λ_ _ _ _ h=>h) (by rw[<-s];exact⟨M,a3⟩) ?_;rw[<-s];clear s D q H
  (refine aE (v:=jf ZC) I aj (λQ s=>cI jT I ng I I s.1) (L ?_))
  (refine aE (v:=?_) I aj (λQ s=>?_) ?_;rotate_left;(have Q:=ae (i:=0) s.2 I;clear s;go_simp;with_reducible rfl);refine L ?_)
  refine ar I (λK' s=>?_);rw[jA aj];refine jE 63 _ _ I a ZC I I 63 ZC M ng I sd ?_;rw[dR M];refine s _ _ ⟨M,a3⟩ λ_=>?_
  clear s;refine L ?_;obtain⟨⟨v0,o⟩,r,bb,a4⟩:=cE (i:=0) (N T 10) a3 ax;have Q:=O ((a4.block a Y).trans M);have R:A ((V.setCell ⟨a+1,0,jc⟩ (N T 10)).heap[a+1]?=ja (jd #[N T 10] 36 (0,0))):=O bb;have S:=O (ba.trans (a4.below (aA u)));clear bb a4;refine ar I (λK' s=>?_);go_simp;refine s _ _ ⟨Q,R⟩ λ_=>?_
  clear s;refine L ?_;generalize V.setCell ⟨a+1,0,jc⟩ (N T 10)=z1 at Q R S⊢;clear o r M a3 ba;refine jV ?_
  go_wp2_with fail
  exact tD S Q R G I I P
 obtain⟨bC,rfl,hu⟩:=hm;obtain⟨pu,cu,rfl⟩:=hu.form;have UX:A (bF x.l):=O (KD hl ad.symm);have a3:=Yr;have Wp:=ad;obtain⟨xk,US⟩:=J x.k;obtain⟨xn,WC⟩:=J x.n;obtain⟨xs,TE⟩:=J x.s;obtain⟨xl,bc⟩:=J x.l.length;rw[<-US,<-WC,<-TE,<-bc];rw[<-bc]at hu;have ba:=O (And.intro US (And.intro WC TE));have j:=ai y (jd #[N T xk,N T xn,jR xs,jb pu xl cu] 128);have a4:=jL y (jd #[N T xk,N T xn,jR xs,jb pu xl cu] 128);obtain⟨V,bb⟩:=J y.heap.size;rw[<-bb]at a4;obtain⟨B,k⟩:=J (y.alloc (jd #[N T xk,N T xn,jR xs,jb pu xl cu] 128));rw[<-k]at j a4;have bd:V<B.heap.size:=(jy.1 a4).1;have bg:a+1<V:=by rw[bb];exact(jy.1 W).1
 have X:=az R3 j;have aa:=az W j;obtain⟨⟨v0,o⟩,r,al,m⟩:=cE (i:=0) (N T 0) aa ax;have au:=(m.block a Y).trans X;have bh:=(m.block V Y).trans a4;have a1:=(t.trans (j.mono t.size)).trans (m.below (aA u));have bk:aw (λg=>a+1<g/\g<y.heap.size) (B.setCell ⟨a+1,0,jc⟩ (N T 0)) x (jb pu xl cu):=aw.keep (λg b=>(m.block g Y).trans (j.block g b.2)) _ _ (aw.mono (λg b=>⟨by have:=(jy.1 UI).1;omega,b.2⟩) _ _ hu);have D:=O au;have M:=O bh;have q:A ((B.setCell ⟨a+1,0,jc⟩ (N T 0)).heap[a+1]?=ja (jd #[N T 0] 36 (0,0))):=O al;have H:=O a1;have VB:=O bk;have TY:=O bb;have bl:=O bg;have bo:=O bd;have bm:(B.setCell ⟨a+1,0,jc⟩ (N T 0)).heap.size=B.heap.size:=ta _ _ _;have TG:A (V<(B.setCell ⟨a+1,0,jc⟩ (N T 0)).heap.size):=O (by rw[bm];exact bd);have E:=ae (i:=0) q I;have a2:=O k;have HY:=O k.symm;rw[a2]at o r E;clear US WC TE bc j a4 bb bd bg X aa al m au bh a1 bk k bm hu a5 Yr R3 W t
 go_upto_region 4 with fail
 rw[HY,<-TY];generalize B.setCell ⟨a+1,0,jc⟩ (N T 0)=x4 at D M q H VB TG⊢;clear o r E HY a2 bo;have o:=ae (i:=0) M I;have W:=ae (i:=1) M I;have X:=ae (i:=2) M I;have c3:=ae (i:=3) M I;obtain⟨oc,j⟩:=J (ie x);have E:=O j;have k:jz jm 73 #[jf #[N T xk,N T xn,jR xs,jb pu xl cu]] x4 (rB x4 oc):=by
  rw[j,ba.1,ba.2.1,ba.2.2];exact OA x (jb pu xl cu) x4 (aw.mono (λg b=>by have:=TY.out;have:=TG.out;omega) _ _ VB.out) UX
 have m:=O k;clear k j VB UX ba
 go_wp2_with fail
 refine m.mono ?_;rintro e t ⟨d,hm⟩;have Q:=Z D d;have bb:=Z M d;have R:=Z q d;have S:=ac H d;have WS:A (V<t.heap.size):=O (jq TG d.size);have a1:=O d.size;clear d D M q H m o W X c3
 rcases oc with _|m
 ·obtain rfl:e=.panicked b9:=hm
  have z:ov=jc:=a3 x I E.symm;have P:=O z;clear z F K a3 E ad Wp;refine oi (f:=72) (args:=#[jB (ja ⟨a,0,jc⟩),jB (ja ⟨a+1,0,jc⟩)]) ax (by simp[go_sem]) ?_;refine(IE a (a+1) Y ZC o6 _ _ t Q R).mono ?_;rintro e u' Wv ⟨rfl,rfl,j,q,D,H,M,W,hk⟩;refine tD (ov:=ov) (S.trans ⟨D,H,M,W,λk X=>hk k (bL S.size) (aA u) (aA u)⟩) j q G I I P
 obtain⟨q,rfl,W⟩:=hm;have D:m.parent.length=32/\m.confirm.length=32/\eu (aJ m):=by
  obtain⟨h1,C,U⟩:=Pu hl Wp.symm E.symm;exact⟨C,U,h1⟩
 have bm:=O D;obtain⟨j,k⟩:=J ((av m q).toArray);have C:j.size=73:=by rw[k];exact gK m q D.1 D.2.1
 have H:j.all (·.oneCell')=jh:=by
  rw[k];obtain⟨M,U,X,vw⟩:=q;obtain⟨⟨-,p1,n1,rfl,-⟩,⟨-,p2,n2,rfl,-⟩,⟨us,⟨-,p3,n3,rfl,-⟩,-⟩,⟨vs,⟨-,p4,n4,rfl,-⟩,-⟩,-⟩:=W;exact nh _ _ _ _ _ _ _ _ _ _ _ _ _
 have HA:=O k;have Sb:=O C;have bd:=O H;have M:(jm.info? 63).map (·.size)=ja j.size:=by rw[C];exact fN
 have al:=O M;have U:=ai t (jd ZC 63);have X:=jL t (jd ZC 63);have ZW:=O X;rw[<-k];clear D k C H M X
 go_upto_region 6 with(refine jt I λ_ s=>?_;refine jE 63 _ _ I t.heap.size j I I 63 ZC ZW al (o6.trans Sb.symm) bd (s _ _ ?_))
 obtain⟨C,k⟩:=J ((t.alloc (jd ZC 63)).setRow t.heap.size j);obtain⟨X,H⟩:=J t.heap.size;have a2:C.heap[X]?=ja (jd j 63 (0,0)):=by rw[k,H];exact jJ _ _ _ _ _ _ ZW.out
 have a4:∀g,g<t.heap.size->C.heap[g]?=t.heap[g]?:=λg b=>by rw[k];exact(jO _ _ _ _ Y).trans (U.block g b)
 have bc:C.heap.size=t.heap.size+1:=by rw[k];simp[m0,j4]
 have M:jr t t C:=by rw[k];exact jK U (jw _) j
 have ba:=Z Q M;have Yf:=Z R M;have aa:=O a2;have TH:=ac S M;have au:A (aF (λg=>a+1<g/\g<X) C m q):=O ((W.keep λg b=>a4 g b.2).mono λg b=>⟨by have:=b.1;have:=TG.out;have:=bl.out;have:=a1.out;omega,by rw[H];exact b.2⟩);have D:A (a+1<X/\X<C.heap.size):=O ⟨by have:=bl.out;have:=WS.out;omega,by omega⟩;have a5:=O k;refine CJ (w':=C) (a5.trans I) ?_;rw[<-H];clear k H a2 a4 bc M U W a5 ZW Q bb R S WS a1 TG;have k:jz jm 20 #[jf j] C (BH m C):=by
  rw[HA];exact Gw m q C (au.mono λg b=>Nat.lt_trans b.2 D.2) bm.2.2
 have M:=O k;clear k
 go_wp2_with (refine kw I 63 _ I X I 63 j (0,0) _ aa.out jT I al ?_)
 refine M.mono ?_;rintro e k ⟨a1,a2,d⟩;have H:=Z ba d;have a4:=Z Yf d;have bo:=Z aa d;have SX:=ac TH d;have bq:A (aF (λg=>a+1<g/\g<X) k m q):=O (au.keep λg b=>d.block g (Nat.lt_trans b.2 D.2));have br:A (a+1<X/\X<k.heap.size):=O ⟨D.1,jq D.2 d.size⟩;have a5:A (aP k (jb p n c) l):=O ((HV.keep λg b=>SX.block g b).bytesL);clear d ba Yf aa TH au D M
 by_cases U:fK m
 ·obtain⟨v,rfl,hv⟩:=a1 U
  have d:=O (aP.of_own hv);obtain⟨pe,ce,bs⟩:∃(pe:jW Addr) (ce:jk),v=jb pe (enc (vL (aJ m))).length ce:=by
   obtain⟨pe,ce,h1,-⟩:=d.out;exact⟨pe,ce,h1⟩
  subst bs;obtain⟨D,W⟩:=J (decide (enc (vL (aJ m))=l));have ba:A (jz jm 74 #[jb pe (enc (vL (aJ m))).length ce,jb p n c] k λe w'=>e=jv (.bool D)/\k=w'):=O (by rw[W];exact OQ _ _ _ _ k d a5);obtain⟨M,hM⟩:=J ((enc (vL (aJ m))).length);rw[<-hM]at ba⊢;have au:=O W;clear hv W a1 a2 d a5 hM
  rcases D with _|_
  ·have z:ov=jc:=F x m I E.symm (λh=>by have:=au.out;rw[eq_comm,decide_eq_false_iff_not]at this;exact this h.2)
   have P:=O z;clear z F K a3 E ad Wp au U
   go_upto_region 8 with(refine ba.mono ?_;rintro e x9 ⟨rfl,rfl⟩)
   have W:k.setRow a ZC=k:=dR H;obtain⟨⟨v0,o⟩,r,d,aa⟩:=cE (i:=0) (N T 220) a4 ax;have UH:=O ((aa.block a Y).trans H);have bb:A ((k.setCell ⟨a+1,0,jc⟩ (N T 220)).heap[a+1]?=ja (jd #[N T 220] 36 (0,0))):=O d;have S6:=O (SX.trans (aa.below (aA u)));rw[<-W]at o r;have bc:=O W;clear d aa W
   go_wp2_with (refine jt I λ_ s=>jE 63 _ _ I a ZC I I 63 ZC H ng I sd (s _ _ ?_))
   rw[bc];refine oi (f:=72) (args:=#[jB (ja ⟨a,0,jc⟩),jB (ja ⟨a+1,0,jc⟩)]) ax (by simp[go_sem]) ?_;refine(zJ a (a+1) _).mono ?_;rintro e u' Wv ⟨rfl,rfl,rfl⟩;refine tD (ov:=ov) S6 UH bb G I I P
  have bg:ov=ja m:=K x m I E.symm U (of_decide_eq_true au.symm);have RU:=O bg;clear bg F K a3 E ad Wp au U
  go_upto_region 9 with(refine ba.mono ?_;rintro e x9 ⟨rfl,rfl⟩)
  have bg:(k.setRow a j).heap[a]?=ja (jd j 63 (0,0)):=jJ _ _ _ _ _ _ H.out;have d:=(jO k a (a+1) j Y).trans a4;obtain⟨⟨v0,o⟩,r,bh,au⟩:=cE (i:=0) (N T 0) d ax;have bu:=O ((au.block a Y).trans bg);have bv:A (((k.setRow a j).setCell ⟨a+1,0,jc⟩ (N T 0)).heap[a+1]?=ja (jd #[N T 0] 36 (0,0))):=O bh;have bw:=O ((jK SX (jU u.symm) j).trans (au.below (aA u)));have bk:((k.setRow a j).setCell ⟨a+1,0,jc⟩ (N T 0)).heap.size=k.heap.size:=by rw[ta];simp[m0]
  have bA:A (aF (λg=>w.heap.size<=g/\g<((k.setRow a j).setCell ⟨a+1,0,jc⟩ (N T 0)).heap.size) ((k.setRow a j).setCell ⟨a+1,0,jc⟩ (N T 0)) m q):=O ((bq.keep λg b=>(au.block g Y).trans (jO _ _ _ _ Y)).mono λg b=>⟨by have:=u.out;omega,by rw[bk];have:=br.out;omega⟩);clear bg d bh au bk
  go_wp2_with (first|(refine kw I 63 _ I X I 63 j (0,0) _ bo.out jT I al ?_)|(refine jt I λ_ s=>jE 63 _ _ I a j I I 63 ZC H al (o6.trans Sb.symm) bd (s _ _ ?_)))
  refine oi (f:=72) (args:=#[jB (ja ⟨a,0,jc⟩),jB (ja ⟨a+1,0,jc⟩)]) ax (by simp[go_sem]) ?_;refine(zJ a (a+1) _).mono ?_;rintro e u' Wv ⟨rfl,rfl,rfl⟩;rw[RU];exact⟨_,Fv I _ _ a (a+1) 63 j _ (0,0) _ I I bu (Cx bv) jT I al,bw,q,by rw[HA],bA⟩
 obtain rfl:=a2 U;have z:ov=jc:=F x m I E.symm (λh=>U h.1);have P:=O z;clear z F K a3 E ad Wp U a1 a2 a5
 go_upto_region 8 with fail
 have W:k.setRow a ZC=k:=dR H;obtain⟨⟨v0,o⟩,r,d,aa⟩:=cE (i:=0) (N T 220) a4 ax;have UH:=O ((aa.block a Y).trans H);have bb:A ((k.setCell ⟨a+1,0,jc⟩ (N T 220)).heap[a+1]?=ja (jd #[N T 220] 36 (0,0))):=O d;have S6:=O (SX.trans (aa.below (aA u)));rw[<-W]at o r;have bc:=O W;clear d aa W
 go_wp2_with (refine jt I λ_ s=>jE 63 _ _ I a ZC I I 63 ZC H ng I sd (s _ _ ?_))
 rw[bc];refine oi (f:=72) (args:=#[jB (ja ⟨a,0,jc⟩),jB (ja ⟨a+1,0,jc⟩)]) ax (by simp[go_sem]) ?_;refine(zJ a (a+1) _).mono ?_;rintro e u' Wv ⟨rfl,rfl,rfl⟩;refine tD (ov:=ov) S6 UH bb G I I P
theorem Mf:aW 4:=by
 refine⟨by decide,by decide,?_⟩;rw[<-uk _ QN 62 G]
 decide+kernel
theorem QC:aW 16:=by
 refine⟨by decide,by decide,?_⟩;rw[<-uk _ QN 62 G]
 decide+kernel
theorem Lm(a:0<=f)(b:f<512)(x:jl):dE (512+f) x=decide (x∈(512+f)::bD f):=by
 by_cases h:x∈(512+f)::bD f
 ·rw[qi h,kO ((nY f a b x).1 h)]
 rw[decide_eq_false h,tl (λc=>h ((nY f a b x).2 c))]
def oQ:jn (jl×jl)->jD
 |[]=>jh
 |[_]=>jh
 |x::y::r=>decide (x.1<y.1)&&oQ (y::r)
theorem FL:∀{t:jn (jl×jl)} {x:jl×jl},oQ (x::t)=jh->∀e∈t,x.1<e.1
 |[],x,_,e,he=>by cases he
 |y::r,x,h,e,he=>by
  simp only[oQ,j5,decide_eq_true_eq]at h
  rcases jP.1 he with rfl|he
  ·exact h.1
  have:=FL h.2 e he;omega
theorem EV:∀{t:jn (jl×jl)},oQ t=jh->Str t
 |[],_=>List.Pairwise.nil
 |[x],_=>List.pairwise_singleton _ _
 |x::y::r,h=>by
  refine List.pairwise_cons.2 ⟨FL h,EV ?_⟩;simp only[oQ,j5]at h;exact h.2
def Ck(t:jn (jl×jl)):jD:=
 oQ t&&t.all λe=>decide (1<=e.1)&&decide (e.1<=1023)&&(decide (e.2=4)||decide (e.2=16))&&t.any λf=>decide (512<=f.1)&&decide (f.1<=1023)&&decide (e.1∈f.1::bD (f.1-512))
theorem Oc(h:Ck t=jh):eA t:=by
 unfold Ck at h;simp only[j5,qo,List.any_eq_true,decide_eq_true_eq,qs]at h;refine⟨EV h.1,λe he=>?_⟩;obtain⟨⟨⟨b,c⟩,a⟩,f,d,⟨g,j⟩,i⟩:=h.2 e he;refine⟨b,c,?_,f,d,g,?_⟩
 ·rcases a with a|a
  ·rw[a];exact Mf
  rw[a];exact QC
 have:=(nY (f.1-512) Y Y e.1).1;rw[show 512+(f.1-512)=f.1 by omega]at this;exact this i
theorem tS:bW []=0:=nE (Oc (by decide+kernel))
theorem tn(n:jk):aW ((aR 4 n:jk):jl):=nX (a:=4) lT n
def du(d:jk):ak:=⟨1,(d:jl),((aR 4 (1000+d):jk):jl),((aR 4 (100+d):jk):jl),0⟩
theorem zu(h:C<512):lH (du C):=⟨⟨by show(0:jl)<=(C:jl);omega,by show(C:jl)<512;omega⟩,.inl ⟨I,tn _,tn _,I⟩⟩
def cR:aI:=⟨3,0,dC,[],[]⟩
def dB:jn ak:=[du 4,du 7]
theorem tC:aY []=[]:=by decide+kernel
theorem Qq(a:bW t=0)(b:0<=f)(c:f<512):dc t f jp=0:=by
 unfold dc;rw[jA a,jG];rintro(h|h|⟨h,-⟩)
 ·omega
 ·omega
 cases h
theorem C1{p:jl}(a:bW t=0)(b:0<=f)(c:f<512)(e:aW p):eX t f p=0:=by
 unfold eX;rw[jA (Qq a b c),jA (eG e)]
theorem Gq(a:fu f):co ⟨f,0,dC,[],[]⟩ where
 fol:=a
 ep:=⟨Int.le_refl _,by show(0:jl)<=1099511627776;omega⟩
 tree:=tS
 zero:=λ_=>⟨I,I⟩
 dev:=tC.symm
 ok:=λm b=>by cases b
theorem DU:co cR:=Gq G
theorem Ed:co fh:=Gq (f:=0) G
theorem yT:dz dB:=⟨λx a=>by
 simp only[dB,jP,kn,or_false]at a
 rcases a with rfl|rfl
 ·exact zu G
 exact zu G,by simp[dB,du],by simp[dB]⟩
theorem vC:dz [du 4]:=⟨λx a=>by
 simp only[jP,kn,or_false]at a;subst a;exact zu G,by simp,by simp⟩
theorem QB:dQ cR 4 dB:=⟨I,λ_=>⟨_,_,I,I⟩,λx a=>by
 simp only[dB,jP,kn,or_false]at a
 rcases a with rfl|rfl
 ·exact⟨I,(λh=>by cases h)⟩
 exact⟨I,(λh=>by cases h)⟩⟩
theorem IN:dQ cR 4 [du 4]:=⟨I,λ_=>⟨_,_,I,I⟩,λx a=>by
 simp only[jP,kn,or_false]at a;subst a;exact⟨I,λh=>by cases h⟩⟩
theorem wh:cK cR 4 dB=0:=iH.2 ⟨DU,yT,QB⟩
theorem Cy:cK cR 4 [du 4]=0:=iH.2 ⟨DU,vC,IN⟩
theorem D7{l:jn ak}(h:¬dQ fh f l):cK fh f l=221:=by
 unfold cK;rw[jA Ed,jG (λb=>h b.2)]
theorem KI:cK fh 3 [du 4]=221:=D7 λh=>by
 obtain⟨x,r,e,a⟩:=h.first I;injection e with b c
 rw[<-b]at a;exact js a G
theorem Ka(a:jl):cK fh a []=221:=D7 λh=>by
 obtain⟨x,r,e,b⟩:=h.first I
 cases e
theorem LU:mf cR 4 104 dB=0:=by
 unfold mf;rw[jG (by show ¬(1099511627776:jl)<=0;omega),jG (λh=>h wh),jG Y,jG (λh=>h I)]
theorem ET:mf fh 3 103 [du 4]=221:=by
 unfold mf;rw[jG (by show ¬(1099511627776:jl)<=0;omega),KI,jA G]
theorem Gt:fD eR=220:=by
 rcases zI eR with⟨h,-⟩|⟨-,h⟩
 ·exact js h.ep.1 G
 exact h
theorem ED:eY fh eR=220:=by
 unfold eY;rw[yj.2 Ed,jG G,Gt,jA G]
theorem yQ:aV [] [du 4]=[(516,((aR 4 1004:jk):jl))]:=by
 have a:eX [] 4 ((aR 4 1004:jk):jl)=0:=C1 tS G G (tn _);show dP [] (du 4)=_;unfold dP;rw[jG G];show ia [] 4 ((aR 4 1004:jk):jl)=_;unfold ia;rw[jA a]
 rfl
theorem A7:eA (aV [] [du 4]):=by
 have h:=(kJ [du 4] [] (ib tS) ⟨λx a=>vC.each x a,vC.once,λx a=>by
  simp only[jP,kn,or_false]at a;subst a;exact⟨(λh=>by rw[tC]at h;cases h),(λh=>js I h)⟩⟩).1
 exact h
theorem Ki:eA (aV [] dB):=by
 have h:=(kJ dB [] (ib tS) ⟨λx a=>yT.each x a,yT.once,λx a=>by
  simp only[dB,jP,kn,or_false]at a
  rcases a with rfl|rfl
  ·exact⟨(λh=>by rw[tC]at h;cases h),(λh=>js I h)⟩
  exact⟨(λh=>by rw[tC]at h;cases h),(λh=>js I h)⟩⟩).1
 exact h
theorem Qr:aV [] dB=[(516,((aR 4 1004:jk):jl)),(519,((aR 4 1007:jk):jl))]:=by
 have a:=nE A7;rw[yQ]at a;have b:eX [(516,((aR 4 1004:jk):jl))] 7 ((aR 4 1007:jk):jl)=0:=C1 a G G (tn _);have e:aV [] dB=dP (aV [] [du 4]) (du 7):=I;rw[e,yQ];unfold dP;rw[jG G];show ia [(516,((aR 4 1004:jk):jl))] 7 ((aR 4 1007:jk):jl)=_;unfold ia;rw[jA b];have c:dE (512+7) 516=jp:=by rw[Lm G G];decide+kernel
 have d:dk [(516,((aR 4 1004:jk):jl))] 7=[(516,((aR 4 1004:jk):jl))]:=by
  unfold dk;rw[qt (by rw[c];rfl)]
  rfl
 rw[d];generalize((aR 4 1004:jk):jl)=p;generalize((aR 4 1007:jk):jl)=q;show(if(519:jl)<516 then _ else _)=_;rw[jG G]
 rfl
theorem kR(h:eA t){x:jl}(a:1<=x)(b:x<=1023):dM t x=cg (aN t) (hgt x.toNat) x.toNat:=by
 have e:gN t x=0:=by unfold gN;rw[jA (nE h),jG Y]
 unfold dM;rw[jA e]
theorem OK:eI 4=[517,259,128,65,33,17,9,5,3]:=by decide+kernel
theorem Rl:∀p:jl,(([517,259,128,65,33,17,9,5,3]:jn jl).map λx=>cg (aN [(516,p)]) (hgt x.toNat) x.toNat)=[[],[],[],[],[],[],[],[],[]]:=by
 intro p;kernel_rfl
theorem LG:∀p q:jl,(([517,259,128,65,33,17,9,5,3]:jn jl).map λx=>cg (aN [(516,p),(519,q)]) (hgt x.toNat) x.toNat)=[[],[519],[],[],[],[],[],[],[]]:=by
 intro p q;kernel_rfl
theorem EL(h:eA t){r:jn (jn jl)}(a:(([517,259,128,65,33,17,9,5,3]:jn jl).map λx=>cg (aN t) (hgt x.toNat) x.toNat)=r):
 dI t 4=(r.zipIdx 1).flatMap λx=>x.1.map λn=>((x.2:jl),n):=by
 unfold dI dZ;rw[OK,<-a];simp only[mT,lo,List.zipIdx_cons,List.zipIdx_nil,nz,p6];rw[kR h (x:=517) G G,kR h (x:=259) G G,kR h (x:=128) G G,kR h (x:=65) G G,kR h (x:=33) G G,
  kR h (x:=17) G G,kR h (x:=9) G G,kR h (x:=5) G G,kR h (x:=3) G G]
theorem Pz:dI (aV cR.tree dB) 4=[(2,519)]:=by
 show dI (aV [] dB) 4=_;have a:(([517,259,128,65,33,17,9,5,3]:jn jl).map λx=>cg (aN (aV [] dB)) (hgt x.toNat) x.toNat)=[[],[519],[],[],[],[],[],[],[]]:=by rw[Qr];exact LG _ _
 rw[EL Ki a]
 rfl
theorem Ha:dj cR 4 [du 4]=[]:=by
 rw[lR Cy];show dI (aV [] [du 4]) 4=_;have a:(([517,259,128,65,33,17,9,5,3]:jn jl).map λx=>cg (aN (aV [] [du 4])) (hgt x.toNat) x.toNat)=[[],[],[],[],[],[],[],[],[]]:=by rw[yQ];exact Rl _
 rw[EL A7 a]
 rfl
theorem GN:dD 4 dB=[du 7]:=by
 unfold dD;have e:(dB.filter λx=> !lG 4 x)=[du 7]:=by
  unfold dB lG;rw[List.filter_cons_of_neg G,qt G,List.filter_nil]
 rw[e];simp[fx]
noncomputable def c47:aD:=mkC cR 4 104 dB (1#8::lw 31 0#8) (2#8::lw 31 0#8) (3#8::lw 31 0#8)
theorem oE:zm cR c47:=Aa wh (by show(0:jl)<1099511627776;omega) I I
theorem mG:ge c47:=Fe wh (by show(0:jl)<1099511627776;omega) I I I
theorem Mr:eY cR c47=0:=G2.2 oE
theorem Ld:c47.box.length=1:=by
 have h:=jX j9 oE.box;rw[jN]at h;rw[h];have e:c47.chg=dB/\c47.author=4:=⟨I,I⟩;rw[e.1,e.2,Pz]
 rfl
theorem JZ:c47.wel.length=1:=by
 have h:=jX j9 oE.wel;rw[jN,jN]at h;have e:c47.chg=dB/\c47.author=4:=⟨I,I⟩;rw[h,e.1,e.2,GN]
 rfl
theorem LF:(dV cR c47).mem=[⟨4,1,((aR 4 104:jk):jl)⟩,⟨7,1,((aR 4 107:jk):jl)⟩]:=by
 show io (iB [] dB (0+1))=_;have e:iB [] dB (0+1)=[⟨4,1,((aR 4 104:jk):jl)⟩,⟨7,1,((aR 4 107:jk):jl)⟩]:=I;rw[e];unfold io;refine List.mergeSort_of_pairwise ?_;simp
theorem Pq:lz (enc (vL (aJ c47)))=ja c47:=Kv c47 mG.plen mG.clen mG.encOk oE.chk
theorem FH:(jm.info? 47).map (·.size)=ja 5:=by kernel_rfl
theorem zS(d:jk)(o:d<512)(w:jj):jz jm 18 #[N T d] w λe w'=>e=jv (jf (du d).cells.toArray)/\jr w w w':=by
 have j:=ai w (jd #[N T 0,N T 0,N T 0,N T 0,N T 0] 47);have a:=jL w (jd #[N T 0,N T 0,N T 0,N T 0,N T 0] 47);obtain⟨b,c⟩:=J w.heap.size;rw[<-c]at a;have h:(1000+(d:jl))=((1000+d:jk):jl):=Y;have i:(100+(d:jl))=((100+d:jk):jl):=Y;have f:A (∀W,jz jm 41 #[N T (1000+(d:jl))] W λe w'=>e=jv (jC #[N T (aR 4 (1000+d):jk),N T 0])/\jr W W w'):=O (λW=>by rw[h];exact tI (1000+d) Y Y W);have g:A (∀W,jz jm 41 #[N T (100+(d:jl))] W λe w'=>e=jv (jC #[N T (aR 4 (100+d):jk),N T 0])/\jr W W w'):=O (λW=>by rw[i];exact tI (100+d) Y Y W);clear h i;have k:=O a;have l:=O j;have m:=O c;obtain⟨p,h⟩:∃y:jl,y=((aR 4 (1000+d):jk):jl):=⟨_,I⟩;obtain⟨q,i⟩:∃y:jl,y=((aR 4 (100+d):jk):jl):=⟨_,I⟩;have n:(du d).cells=[N T 1,N T d,N T p,N T q,N T 0]:=by rw[h,i];rfl
 rw[<-h]at f;rw[<-i]at g;rw[n];clear a j c h i n
 go_enter func18,ntmps18
 go_wp2_with fail
 refine(f _).mono ?_;rintro e n ⟨rfl,a⟩;have c:=Z k a;have h:=ac l a;clear a k l f
 go_wp2_with fail
 refine(g _).mono ?_;rintro e f ⟨rfl,a⟩;have i:=Z c a;have j:=ac h a;clear a c h g;rw[<-m];have a:=O (jJ f b _ #[N T 1,N T d,N T p,N T q,N T 0] _ _ i.out);have c:=O (jK j (jU m.symm) #[N T 1,N T d,N T p,N T q,N T 0])
 go_wp2_with (refine jt I λ_ g=>jE 47 _ _ I b #[N T 1,N T d,N T p,N T q,N T 0] I I 47 _ i.out FH I (by simp[kl]) (g _ _ ?_))
 generalize f.setRow b #[N T 1,N T d,N T p,N T q,N T 0]=g at a c⊢;exact bodyPost_ret (v:=jf #[N T 1,N T d,N T p,N T q,N T 0]) (results_cell_row I _ _ b 47 _ (0,0) _ I a underlying47 I FH) I ⟨I,c⟩
theorem Ma{r:aI}{f c:aK}(v:r.mem=[f,c])(h:EM.At w i r.mem):
 ∃a b d,i=jb (ja ⟨a,b,jc⟩) 2 d/\w.cell? ⟨a,b+3,jc⟩=ja (N T c.dev):=by
 rw[v]at h;obtain⟨-,p,d,e,-,-,j⟩:=h;obtain⟨a,b,rfl,k⟩:=j (by show 0<2;omega);exact⟨a,b,d,e,k 3 (N T c.dev) I⟩
theorem KJ(g:d=c47){vm vt:jo}(h:cr w (dV cR d) vm vt):
 ∃e f i,vm=jb (ja ⟨e,f,jc⟩) 2 i/\w.cell? ⟨e,f+3,jc⟩=ja (N T 7):=by
 have c:(dV cR d).mem=[⟨4,1,((aR 4 104:jk):jl)⟩,⟨7,1,((aR 4 107:jk):jl)⟩]:=by rw[g];exact LF
 generalize((aR 4 104:jk):jl)=a at c;generalize((aR 4 107:jk):jl)=b at c;exact Ma c h.mem
theorem rq(l:h[C]?=ja i):h.toArray[C]?=ja i:=by rw[List.getElem?_toArray];exact l
theorem Ju{W:jj}{c:aD}{q:CQ}{n:jk}(b:c.box.length=n)(h:aF D W c q):∃p k,(av c q).toArray[37]?=ja (jb p n k):=by
 obtain⟨-,-,-,-,-,a,-,-,-⟩:=fk c q h.plen h.clen;obtain⟨d,⟨-,p,k,e,-⟩,-⟩:=h.box;rw[e,b]at a;exact⟨p,k,rq a⟩
theorem Rb{W:jj}{c:aD}{q:CQ}{n:jk}(b:c.wel.length=n)(h:aF D W c q):∃p k,(av c q).toArray[38]?=ja (jb p n k):=by
 obtain⟨-,-,-,-,-,-,a,-,-⟩:=fk c q h.plen h.clen;obtain⟨d,⟨-,p,k,e,-⟩,-⟩:=h.wel;rw[e,b]at a;exact⟨p,k,rq a⟩
theorem Pl{g:aI}{vm vt:jo}{e:jl}(a:g.last.length=32)(b:g.folder=f)(he:g.epoch=e):
 (aG g vm vt).toArray[0]?=ja (N T f)/\(aG g vm vt).toArray[1]?=ja (N T e)/\(aG g vm vt).toArray[34]?=ja vm:=by
 have h:=mi (g:=g) (vm:=vm) (vt:=vt) a;rw[b,he]at h;exact⟨rq h.1,rq h.2.1,rq h.2.2.1⟩
theorem wM(g:aI)(c:aD):(dV g c).folder=g.folder/\(dV g c).epoch=c.epoch/\(dV g c).last=idC c:=by
 unfold dV;exact⟨by dsimp only,by dsimp only,by dsimp only⟩
theorem Ot:(dV cR d).folder=3:=(wM cR d).1
theorem N2:c47.epoch=1:=oE.ep.trans (show cR.epoch+1=1 from I)
theorem MF(a:d=c47):(dV cR d).epoch=1:=(wM cR d).2.1.trans (by rw[a];exact N2)
theorem Qk{g:aI}{vm vt:jo}{m:af}(b:g.last.length=32)(e:g.last=m)(a:c=(aG g vm vt).toArray)(h:w.heap[C]?=ja (jd c 29 (0,0))):w.rangeAt C 2 (m.map v8):=by
 rw[<-e];rw[a]at h;exact dh.last (g:=g) (vm:=vm) (vt:=vt) ⟨h,b⟩
theorem IS:(dV cR d).last=idC d:=(wM cR d).2.2
theorem Na(c:aD):(jm.info? 23).map (·.size)=ja ((idC c).map v8).length:=by rw[jN,tJ];kernel_rfl
theorem KT(l:af)(a:l.length=32)(z:jj):(Op.equalIn 10000 23 (jf (l.map v8).toArray) (jf (l.map v8).toArray)).run jm z=.ok jh z:=by
 have h:=sH l l a a z;rw[show decide (l=l)=jh from qi I]at h;exact h
theorem Nn(a b:af)(f:a.length=32)(g:b.length=32)(z:jj):
 (Op.equalIn 10000 64 (jf (a.map v8).toArray) (jf (b.map v8).toArray)).run jm z=.ok (decide (a=b)) z:=by
 have h:=zt (P:=jm) (t:=64) (e:=5) (n:=32) (k:=.u8) qj underlying5 ag ag ag (a.map λb=>(b.toNat:jl)) (b.map λb=>(b.toNat:jl)) (by rw[jN];exact f) (by rw[jN];exact g)
  (by
   intro c d;obtain⟨y,-,rfl⟩:=List.mem_map.1 d;have:=y.isLt;exact WalkArith.wf_u8 Y) (by
    intro c d;obtain⟨y,-,rfl⟩:=List.mem_map.1 d;have:=y.isLt;exact WalkArith.wf_u8 Y) z
 have e:∀l:af,(l.map λb=>(b.toNat:jl)).map (jg .u8)=l.map v8:=λl=>by rw[List.map_map];rfl
 rw[e,e]at h;rw[h]
 congr 1
 have c:(a.map λb=>(b.toNat:jl))=(b.map λb=>(b.toNat:jl))↔a=b:=by
  refine List.map_inj_right λx y d=>?_
  have:x.toNat=y.toNat:=Int.ofNat.inj d;exact BitVec.eq_of_toNat_eq this
 simp only[c]
theorem J8(l:af)(a:l.length=32)(z:jj):(Op.equalIn 10000 64 (jf (l.map v8).toArray) (jf (l.map v8).toArray)).run jm z=.ok jh z:=by
 have h:=Nn l l a a z;rw[show decide (l=l)=jh from qi I]at h;exact h
theorem I2(k:af)(i:af):gh cR k i=sF dC (cG k 9):=I
section
section
variable {P:mb} {ops:ju jQ} {Q:Exit->Act->jj->Prop} {md:Region.Mode} {S:jj->Prop}
def ru(P:mb)(ops:ju jQ)(S:jj->Prop):jn jk->(Act->jj->Prop)->Act->jj->Prop
 |[],K,a,w=>K a w
 |i::r,K,a,w=>∃o v,ops[i]?=ja o/\fs P ops S o v a/\ru P ops S r K (a.put o.dst v) w
def tM(md:Region.Mode)(ops:ju jQ):jn jk->ju jD->jD
 |[],_=>jh
 |i::r,a=>Region.free md ops a i&&(Region.ready md ops a).contains i&&tM md ops r (a.setIfInBounds i jh)
def m7:jn jk->ju jD->ju jD
 |[],a=>a
 |i::r,a=>m7 r (a.setIfInBounds i jh)
theorem FQ(g:Region.noSelect ops=jh)(k:∀c a b w,Q (.panic c) a w->Q (.panic c) b w){K:Act->jj->Prop}{n:jk}{f:ju jD}(m:∀a w,K a w->gC P md ops Q S ops.size n f a w):
 ∀(l:jn jk) (b:ju jD) (a:Act) (w:jj),tM md ops l b=jh->m7 l b=f->S w->ru P ops S l K a w->gC P md ops Q S ops.size (n+l.length) b a w
 |[],b,a,w,_,e,_,h=>by
  have d:b=f:=e;rw[d];exact m a w h
 |i::r,b,a,w,hk,e,p,⟨o,v,q,s,h⟩=>by
  simp only[tM,j5]at hk;refine ug q (Region.noSelect_spec g) (λc a d v w=>k c _ a w) (n+r.length) b a w (Region.free_spec q hk.1.1) (λj c d t _=>(B5 j c d t).elim) (ah hk.1.2) s p (FQ g k m r _ _ _ hk.2 e p h)
def iU(md:Region.Mode)(ops:ju jQ)(e f:jk)(g:ju jD):jk->jn (jk×jD)->jD->jD->ju jD->jD
 |0,b,c,d,a=>b.isEmpty&&c&&d&&(a==g)
 |n+1,b,c,d,a=>match b.head? with
  |some (k,jh)=>Region.free md ops a k&&(Region.ready md ops a).contains k&&iU md ops e f g n b.tail c d (a.setIfInBounds k jh)
  |_=> !(Region.ready md ops a).isEmpty&&(Region.ready md ops a).all λi=>
   (b.head?==ja (i,jp)&&iU md ops e f g n b.tail c d (a.setIfInBounds i jh))||(i==e&& !c&&iU md ops e f g n b jh d (a.setIfInBounds i jh))||(i==f&& !d&&iU md ops e f g n b c jh (a.setIfInBounds i jh))
theorem sf{r s:jk}{t:ju jD}{l:jn (jk×jD)}{fe:jk}(u:Region.noSelect ops=jh)(x:∀c a q w,Q (.panic c) a w->Q (.panic c) q w)(g:jk->jD->jD->Act->jj->Prop)(p:∀j b f a w,g j b f a w->S w)
 (y:∀j i,l[j]?=ja (i,jh)->∀b f a w,g j b f a w->∃o v,ops[i]?=ja o/\fs P ops S o v a/\g (j+1) b f (a.put o.dst v) w) (z:∀j i,l[j]?=ja (i,jp)->∀b f a w,g j b f a w->wpOp P ops Q i (g (j+1) b f) a w) (B:∀j f a w,g j jp f a w->wpOp P ops Q r (g j jh f) a w) (C:∀j b a w,g j b jp a w->wpOp P ops Q s (g j b jh) a w)
 (D:∀a w,g l.length jh jh a w->gC P md ops Q S ops.size fe t a w):
 ∀(n j:jk) (b f:jD) (m:ju jD) (a:Act) (w:jj),j<=l.length->iU md ops r s t n (l.drop j) b f m=jh->g j b f a w->gC P md ops Q S ops.size (fe+n) m a w
 |0,j,b,f,m,a,w,E,hk,h=>by
  simp only[iU,j5,beq_iff_eq,List.isEmpty_iff,List.drop_eq_nil_iff]at hk;obtain⟨⟨⟨d,rfl⟩,rfl⟩,rfl⟩:=hk;obtain rfl:j=l.length:=Y;exact D a w h
 |n+1,j,b,f,m,a,w,E,hk,h=>by
  rw[iU,List.head?_drop]at hk
  by_cases H:∃k,l[j]?=ja (k,jh)
  ·obtain⟨k,e⟩:=H
   rw[e]at hk;simp only[j5]at hk;have F:j<l.length:=(qa.1 e).1;obtain⟨o,v,K,M,R⟩:=y j k e b f a w h;rw[qu]at hk;refine ug K (Region.noSelect_spec u) (λc a d v w=>x c _ a w) (fe+n) m a w (Region.free_spec K hk.1.1) (λj c E d _=>(B5 j c E d).elim) (ah hk.1.2) M (p _ _ _ _ _ h) (sf u x g p y z B C D n (j+1) b f _ _ w F hk.2 R)
  have d:(!(Region.ready md ops m).isEmpty&&(Region.ready md ops m).all λi=>
   (l[j]?==ja (i,jp)&&iU md ops r s t n (l.drop j).tail b f (m.setIfInBounds i jh))||(i==r&& !b&&iU md ops r s t n (l.drop j) jh f (m.setIfInBounds i jh))||(i==s&& !f&&iU md ops r s t n (l.drop j) b jh (m.setIfInBounds i jh)))=jh:=by
   split at hk
   ·rename_i k e
    exact js ⟨k,e⟩ H
   exact hk
  simp only[j5,qo]at d;refine λ_=>⟨λv=>(by rw[v]at d;simp at d),λi K=>?_⟩
  have o:=d.2 i K;simp only[qs,j5,beq_iff_eq,Bool.not_eq_true']at o
  rcases o with(⟨e,k⟩|⟨⟨rfl,rfl⟩,k⟩)|⟨⟨rfl,rfl⟩,k⟩
  ·rw[qu]at k
   have F:j<l.length:=(qa.1 e).1;exact wpOp_mono (λq w' c=>⟨.inr (p _ _ _ _ _ c),sf u x g p y z B C D n (j+1) b f _ q w' F k c⟩) (z j i e b f a w h)
  ·exact wpOp_mono (λq w' c=>⟨.inr (p _ _ _ _ _ c),sf u x g p y z B C D n j jh f _ q w' E k c⟩) (B j f a w h)
  exact wpOp_mono (λq w' c=>⟨.inr (p _ _ _ _ _ c),sf u x g p y z B C D n j b jh _ q w' E k c⟩) (C j b a w h)
theorem IQ{r:jk}{a:Act}{w:jj}(S:jj->Prop)(g:jn jk)(b:jn (jk×jD))(h k:jk)(t:bJ)(d:jk->jD->jD->Act->jj->Prop)(s:P.follows .mixedOrders=jh)(l:Region.noSelect ops=jh)
 (u:tM .any ops g (j7 ops.size jp)=jh) (x:iU .any ops h k (m7 (b.map Prod.fst++[h,k]) (m7 g (j7 ops.size jp))) (b.length+2) b jp jp (m7 g (j7 ops.size jp))=jh)
 (y:gk .any ops t (m7 (b.map Prod.fst++[h,k]) (m7 g (j7 ops.size jp)))=jh) (M:g.length+(b.length+2)+t.len<=ops.size) (m:∀c a p w,Q (.panic c) a w->Q (.panic c) p w)
 (z:S w.drew) (q:∀j c e a w,d j c e a w->S w)
 (B:∀j i,b[j]?=ja (i,jh)->∀c e a w,d j c e a w->∃o v,ops[i]?=ja o/\fs P ops S o v a/\d (j+1) c e (a.put o.dst v) w) (o:∀j i,b[j]?=ja (i,jp)->∀c e a w,d j c e a w->wpOp P ops Q i (d (j+1) c e) a w) (v:∀j e a w,d j jp e a w->wpOp P ops Q h (d j jh e) a w) (C:∀j c a w,d j c jp a w->wpOp P ops Q k (d j c jh) a w)
 (j:∀a w,d b.length jh jh a w->ey P ops Q S t a w) (D:ru P ops S g (d 0 jp jp) a w.drew):(Code.region r ops jh).wp P Q a w:=by
 refine wp_region_any s (sw (S:=S) (f:=ops.size) _ _ _ _ (ir.zero _) ?_);have e:ops.size=(ops.size-g.length-(b.length+2))+(b.length+2)+g.length:=Y;have c:=FQ (md:=.any) (S:=S) l m (K:=d 0 jp jp) (n:=ops.size-g.length-(b.length+2)+(b.length+2)) (λp w' E=>sf (md:=.any) (fe:=ops.size-g.length-(b.length+2)) l m d q B o v C (λF H i=>kt l m t _ _ _ _ Y y (bJ.waits_size t) (.inr (q _ _ _ _ _ i)) (eh.toF t _ _ (j F H i))) (b.length+2) 0 jp jp _ p w' (Nat.zero_le _) x E) g _ a w.drew u I z D;rw[<-e]at c;exact c
theorem tY{i:jk}{o:jQ}{v:jo}{r:jn jk}{K:Act->jj->Prop}{a:Act}{w:jj}(b:ops[i]?=ja o)(c:Region.wanted o (yielded ops a.tmps)=jh)
 (d:∀w,S w->(jM a.eval o).run P w=.ok (.value v) w) (h:ru P ops S r K (a.put o.dst v) w):ru P ops S (i::r) K a w:=
 ⟨o,v,b,.inl ⟨c,λw e=>.inl (d w e)⟩,h⟩
end
end
theorem zM(g:aI)(a:jl)(l:jn ak):(dj g a l).length<=1000000:=by
 unfold dj
 split
 ·rename_i h
  obtain⟨b,c,d⟩:=iH.1 h;obtain⟨e,f⟩:=mw b c d;have i:=Ap (aV g.tree l) (eI a) 1;rw[nM e f]at i;show(dZ (aV g.tree l) (eI a) 1).length<=_;omega
 simp
theorem BE(a:jl)(l:jn ak):(dD a l).length<=l.length:=by
 unfold dD fx;rw[(List.mergeSort_perm _ _).length_eq];exact qb _ _
theorem gF{x:Operand}{g t:j6}{d:TypeDesc}(e:jm.underlying g=ja d)(i:d.isRow=jh)(j:(jm.info? g).map (·.size)=ja c.size)(k:o.op=.load g x)(m:b.eval x=jB (ja ⟨C,0,jc⟩))(n:w.heap[C]?=ja (jd c t (0,0))):
 (jM b.eval o).run jm w=.ok (.value (jf c)) w:=by
 have h:=rx (P:=jm) o b g x k C 0 m c.toList _ (tW (t:=t) (l:=c.toList) (ah n)) e i (by rw[Array.length_toList];exact j)
 simpa using h
theorem NK{a:Act}{c:ju (jk×Operand)}{e:jl}{b:ju jo}(d:b.size=32)(g:o.op=.build 29 c)(h:(c.map fun(i,x)=>(i,a.eval x))= #[(0,N T f),(1,N T e),(2,jf b)])(W:jj):
 (jM a.eval o).run jm W=.ok (.value (jf (#[N T f,N T e]++b++ #[jb jc 0 0,jb jc 0 0]))) W:=by
 simp only[jM,g,h,Sem.run_bind,Jj f e b d,Result.andThen_ok,Sem.run_pure]
theorem Mu{b:Act}(a:o.op=.build 29 #[])(W:jj):
 (jM b.eval o).run jm W=.ok (.value (jf (aG ⟨0,0,lw 32 0#8,[],[]⟩ (jb jc 0 0) (jb jc 0 0)).toArray)) W:=by
 simp only[jM,a,List.map_toArray,lo,Sem.run_bind,N8,Result.andThen_ok,Sem.run_pure]
theorem Pj(f e:jl)(d:af)(g:d.length=32):∃X c:ju jo,c=(d.map v8).toArray/\c.size=32/\X= #[N T f,N T e]++c++ #[jb jc 0 0,jb jc 0 0]/\
 X=(aG ⟨f,e,d,[],[]⟩ (jb jc 0 0) (jb jc 0 0)).toArray/\(jm.info? 29).map (·.size)=ja X.size/\X.all (·.oneCell')=jh/\X.size=36:=by
 have h:(aG ⟨f,e,d,[],[]⟩ (jb jc 0 0) (jb jc 0 0)).toArray.size=36:=by rw[j3,zq g]
 have a: #[N T f,N T e]++(d.map v8).toArray++ #[jb jc 0 0,jb jc 0 0]=(aG ⟨f,e,d,[],[]⟩ (jb jc 0 0) (jb jc 0 0)).toArray:=by unfold aG;simp
 refine⟨_,_,I,by rw[j3,jN];exact g,I,a,?_,?_,?_⟩
 ·rw[a,h];kernel_rfl
 ·rw[a,qc]
  intro i b;simp only[aG,qd,jP,qe,qf,or_false]at b
  rcases b with rfl|rfl|b|rfl|rfl
  ·rfl
  ·rfl
  ·exact g8 _ i b
  ·rfl
  rfl
 rw[a];exact h
theorem G3(g:aI)(c:aD):∀a,a=idC c->∀b v:jo,aG ⟨g.folder,c.epoch,a,[],[]⟩ b v=aG (dV g c) b v:=by
 intro a h b v;rw[h];clear h;unfold dV;generalize idC c=i;dsimp only[aG]
theorem JY(g:aI)(c:aD):(dV g c).last.length=32:=by
 have h:=tJ c;unfold dV
 revert h
 generalize idC c=i;exact λh=>h
theorem P6(g:aI)(c:aD)(W:jj)(a v:jo)(b:EM.At W a (io (iB g.mem c.chg c.epoch)))(d:bp W v (lx (aV g.tree c.chg) c.author c.path)):cr W (dV g c) a v:=by
 have h:=JY g c
 revert h
 unfold dV;generalize idC c=i;exact λh=>⟨b,d,h⟩
def JN(g:aI)(c:aD)(w:jj)(e:Ending)(w':jj):Prop:=
 (eY g c=0->∃vm vt,e=jv (jC #[jf (aG (dV g c) vm vt).toArray,N T 0])/\cr w' (dV g c) vm vt)/\
 (eY g c≠0->e=jv (jC #[jf (aG fh (jb jc 0 0) (jb jc 0 0)).toArray,N T (eY g c)]))/\jr w w w'
def Ay(g:aI)(c:aD)(w:jj)(e:Ending)(w':jj):Prop:=
 (eY g c=0->∃vm vt,e=jv (jC #[jf (aG (dV g c) vm vt).toArray,N T 0])/\cr w' (dV g c) vm vt/\Fr w.heap.size vm/\Fr w.heap.size vt)/\
 (eY g c≠0->e=jv (jC #[jf (aG fh (jb jc 0 0) (jb jc 0 0)).toArray,N T (eY g c)]))/\jr w w w'
theorem Jv(g:aI)(vm vt:jo)(c:aD)(q:CQ)(w:jj)(h:cr w g vm vt)(hC:aF (·<w.heap.size) w c q)(i:eu (aJ c))(hT:da w)(bn:g.mem.length<=900000)(bo:g.tree.length<=600000):
 jz jm 19 #[jf (aG g vm vt).toArray,jf (av c q).toArray] w (Ay g c w):=by
 obtain⟨er,al⟩:=J (eY g c);obtain⟨NG,b⟩:=J (dV g c);obtain⟨P,d⟩:=J (Ay g c w);have HP:A (∀e w',((er=0->∃vm vt,e=jv (jC #[jf (aG NG vm vt).toArray,N T 0])/\cr w' NG vm vt/\Fr w.heap.size vm/\Fr w.heap.size vt)/\(er≠0->e=jv (jC #[jf (aG fh (jb jc 0 0) (jb jc 0 0)).toArray,N T er]))/\jr w w w')->P e w'):=O (by
  rw[d,al,b];exact λe w' h=>h)
 rw[<-d];clear d;have cy:A (∀F,F=idC c->∀ad v:jo,aG ⟨g.folder,c.epoch,F,[],[]⟩ ad v=aG NG ad v):=O (by rw[b];exact G3 g c);have cz:A (∀(W:jj) (ad v:jo),EM.At W ad (io (iB g.mem c.chg c.epoch))->bp W v (lx (aV g.tree c.chg) c.author c.path)->cr W NG ad v):=O (by rw[b];exact P6 g c);clear b;have a2:=O al;have au:=lC (vm:=vm) (vt:=vt) h.llen;have a1:(jm.info? 63).map (·.size)=ja (av c q).toArray.size:=by rw[j3,fa c q hC.plen hC.clen];exact fN
 have SH:=mi (vm:=vm) (vt:=vt) h.llen;have bq:=fk c q hC.plen hC.clen;have a4:∀(w:jj) (b:jk),w.heap[b]?=ja (jd (aG g vm vt).toArray 29 (0,0))->w.rangeAt b 2 (g.last.map v8):=λw b hb=>dh.last ⟨hb,h.llen⟩
 have bb:∀(w:jj) (b:jk),w.heap[b]?=ja (jd (av c q).toArray 63 (0,0))->w.rangeAt b 2 (c.parent.map v8):=λw b hb j v hj=>by
  have d:=(qa.1 hj).1;rw[jN,hC.plen]at d;have h1:=vJ c q hC.plen d;refine(ae hb (ah h1)).trans ?_;rw[<-hj,qn,ms (by rw[hC.plen];exact d)];simp[nn,hC.plen,d]
 have HV:A (∀W,cr W g vm vt->jz jm 32 #[jf (aG g vm vt).toArray] W λe w'=>e=jv (.bool (fg g))/\jr W W w'):=O (λW d=>z6 g vm vt W d Y Y);have HK:A (∀W,aF (·<W.heap.size) W c q->jz jm 25 #[jf (av c q).toArray] W λe w'=>e=jv (N T (fD c))/\jr W W w'):=O (λW d=>B3 c q W d i);have HN:A (∀W,cr W g vm vt->EC.At W q.vc c.chg->jz jm 10 #[jf (aG g vm vt).toArray,N T c.author,q.vc] W λe w'=>∃ad,e=jv (jC #[ad,N T (cK g c.author c.chg)])/\w'.ownsRow W 54 4 ad (dj g c.author c.chg).length (EB0.flat (dj g c.author c.chg))/\jr W W w'):=O (λW d f=>rQ g vm vt _ _ _ W d f Y Y i.lens.1);have bl:A (∀W,co g->dz c.chg->dQ g c.author c.chg->cr W g vm vt->EC.At W q.vc c.chg->jz jm 42 #[jf (aG g vm vt).toArray,N T c.author,q.vc] W λe w'=>e=jv (N T (dO g c.author c.chg))/\jr W W w'):=O (λW hv hf hp d f=>Ek g vm vt _ _ _ W d (sT hv) Y f (λhn=>by
  have h0:=hp.own;rw[hn]at h0;obtain⟨x,r,h1,-⟩:=hp.first (by have:=hv.ep.1;have h2:=of_decide_eq_false h0.symm;omega);rw[h1];simp))
 have Yu:A (∀W,aF (·<W.heap.size) W c q->da W->jz jm 54 #[jf (av c q).toArray] W λe w'=>∃D,e=jv (jb (ja ⟨D,0,jc⟩) 32 32)/\aP w' (jb (ja ⟨D,0,jc⟩) 32 32) (dJ c)/\jr W W w'):=O (λW d hT=>FB c q W d i hT);have bN:A (∀W,aF (·<W.heap.size) W c q->da W->jz jm 23 #[jf (av c q).toArray] W λe w'=>e=jv (jf ((idC c).map v8).toArray)/\jr W W w'):=O (λW d hT=>CO c q W d i hT);have Yr:A (∀W,dz c.chg->cr W g vm vt->EC.At W q.vc c.chg->jz jm 36 #[jf (aG g vm vt).toArray,q.vc] W λe w'=>∃ad,e=jv (jf #[ad])/\bp w' ad (aV g.tree c.chg)/\jr W W w'):=O (λW hf d f=>vF g vm vt _ _ W d hf Y f);obtain⟨aa,hA⟩:=J ((aG g vm vt).toArray);obtain⟨C,H⟩:=J ((av c q).toArray);rw[<-hA]at au HV HN bl Yr a4⊢;rw[<-H]at a1 HK Yu bN bb⊢;obtain⟨x0,k⟩:=J ((((w.alloc (jd aa 29)).alloc (jd C 63)).alloc (jd #[N T 0,N T 0,jg ji 0,jg ji 0,jg ji 0,jg ji 0,jg ji 0,jg ji 0,jg ji 0,jg ji 0,jg ji 0,jg ji 0,jg ji 0,jg ji 0,jg ji 0,jg ji 0,jg ji 0,jg ji 0,jg ji 0,jg ji 0,jg ji 0,jg ji 0,jg ji 0,jg ji 0,jg ji 0,jg ji 0,jg ji 0,jg ji 0,jg ji 0,jg ji 0,jg ji 0,jg ji 0,jg ji 0,jg ji 0,jb jc 0 0,jb jc 0 0] 29)));obtain⟨s,r⟩:=J w.heap.size;have d:=jL w (jd aa 29);have u:=ai w (jd aa 29);have a5:=jL (w.alloc (jd aa 29)) (jd C 63);have M:=ai (w.alloc (jd aa 29)) (jd C 63);have Q:=jL ((w.alloc (jd aa 29)).alloc (jd C 63)) (jd #[N T 0,N T 0,jg ji 0,jg ji 0,jg ji 0,jg ji 0,jg ji 0,jg ji 0,jg ji 0,jg ji 0,jg ji 0,jg ji 0,jg ji 0,jg ji 0,jg ji 0,jg ji 0,jg ji 0,jg ji 0,jg ji 0,jg ji 0,jg ji 0,jg ji 0,jg ji 0,jg ji 0,jg ji 0,jg ji 0,jg ji 0,jg ji 0,jg ji 0,jg ji 0,jg ji 0,jg ji 0,jg ji 0,jg ji 0,jb jc 0 0,jb jc 0 0] 29);have V:=ai ((w.alloc (jd aa 29)).alloc (jd C 63)) (jd #[N T 0,N T 0,jg ji 0,jg ji 0,jg ji 0,jg ji 0,jg ji 0,jg ji 0,jg ji 0,jg ji 0,jg ji 0,jg ji 0,jg ji 0,jg ji 0,jg ji 0,jg ji 0,jg ji 0,jg ji 0,jg ji 0,jg ji 0,jg ji 0,jg ji 0,jg ji 0,jg ji 0,jg ji 0,jg ji 0,jg ji 0,jg ji 0,jg ji 0,jg ji 0,jg ji 0,jg ji 0,jg ji 0,jg ji 0,jb jc 0 0,jb jc 0 0] 29);replace d:=az d M;replace d:=az d V;rw[j4]at a5;replace a5:=az a5 V;rw[j4,j4]at Q;have z:=((u).trans (M.mono (u).size)).trans (V.mono ((u).trans (M.mono (u).size)).size);rw[<-k]at z;rw[<-k,<-r]at d;rw[<-k,<-r]at a5;rw[<-k,<-r]at Q;have U:=O d;have R2:=O a5;have S:=O Q;have o:=O z;have HW:=O k;have HG:=O r;have br:=O h;have ba:=O hC;have U9:=h.below z;have bA:=hC.below z;obtain⟨B,m⟩:∃y:ju jo,y= #[N T 0,N T 0,jg ji 0,jg ji 0,jg ji 0,jg ji 0,jg ji 0,jg ji 0,jg ji 0,jg ji 0,jg ji 0,jg ji 0,jg ji 0,jg ji 0,jg ji 0,jg ji 0,jg ji 0,jg ji 0,jg ji 0,jg ji 0,jg ji 0,jg ji 0,jg ji 0,jg ji 0,jg ji 0,jg ji 0,jg ji 0,jg ji 0,jg ji 0,jg ji 0,jg ji 0,jg ji 0,jg ji 0,jg ji 0,jb jc 0 0,jb jc 0 0]:=⟨_,I⟩;have bB:(aG fh (jb jc 0 0) (jb jc 0 0)).toArray=B:=by rw[m];rfl
 have bC:(jm.info? 29).map (·.size)=ja B.size:=by rw[m];kernel_rfl
 have bI:B.all (·.oneCell')=jh:=by rw[m];kernel_rfl
 replace S:A (x0.heap[s+1+1]?=ja (jd B 29 (0,0))):=O (by rw[m];exact S);have Uk:=O au;have UG:=O a1;have K:=O bC;have a3:=O bI;have bO:A (B.size=36):=O (by rw[m];rfl);have Zn:=O bB;have Vx:=O U9;have X:=O bA;have cA:=O a4;have cL:=O bb;have bs:=O hT;have cX:=O i;have Ti:=O h.llen;have T4:=O hC.plen;have c5:=O hC.clen;have bu:=O bn;have Vq:=O bo;have bd:A (aa[0]?=ja (N T g.folder)/\aa[1]?=ja (N T g.epoch)/\aa[34]?=ja vm/\aa[35]?=ja vt):=O (by rw[hA];simpa using SH);have t:A (C[0]?=ja (N T c.folder)/\C[1]?=ja (N T c.epoch)/\C[34]?=ja (N T c.author)/\C[35]?=ja q.vc/\C[36]?=ja q.vp/\C[37]?=ja q.vb/\C[38]?=ja q.vw/\C[71]?=ja (N T c.r)/\C[72]?=ja (N T c.s)):=O (by rw[H];simpa using bq);have Vt:=O hA;have c6:=O H;have TI:=O (zI c);have bv:=O (vH g c.author c.chg);obtain⟨vb,bc⟩:=J (fg g);obtain⟨e2,f⟩:=J (fD c);rw[<-bc]at HV bv;rw[<-f]at HK TI;have bm:=O bc;have bT:=O f;obtain⟨pc,nc,e4,Zd⟩:∃p n c',q.vc=jb p n c':=by obtain⟨p,c',h⟩:=hC.chg.form;exact⟨p,_,c',h⟩
 obtain⟨pp,np,cp,bg⟩:∃p n c',q.vp=jb p n c':=by obtain⟨p,c',h⟩:=hC.path.form;exact⟨p,_,c',h⟩
 obtain⟨pb,nb,e5,bh⟩:∃p n c',q.vb=jb p n c':=by obtain⟨us,h,-⟩:=hC.box;obtain⟨p,c',h⟩:=h.form;exact⟨p,_,c',h⟩
 obtain⟨pw,nw,e6,bk⟩:∃p n c',q.vw=jb p n c':=by obtain⟨us,h,-⟩:=hC.wel;obtain⟨p,c',h⟩:=h.form;exact⟨p,_,c',h⟩
 obtain⟨pm,nm,c7,c8⟩:∃p n c',vm=jb p n c':=by obtain⟨p,c',h,-⟩:=h.mem.form;exact⟨p,_,c',h⟩
 obtain⟨pt,nt,e7,c9⟩:=iW h.tree;rw[Zd]at t HN bl Yr;rw[bg,bh,bk]at t;have bf:=O Zd;have db:=O bg;have bw:=O bh;have b4:=O bk;subst c8;subst c9;clear U9 bA m bB bC bI au a1 a4 bb hT i bn bo hA H SH bq h hC bc f Zd bg bh bk al;clear z k r d u a5 M Q V
 go_enter func19,ntmps19
 go_upto_region 1 with fail
 rw[<-HW,<-HG];refine jI ?_;refine kw I 29 _ I s I 29 aa (0,0) _ U.out jF I Uk ?_
 go_wp2_with fail
 refine(HV x0 Vx).mono ?_;rintro e x1 ⟨rfl,d⟩;have Sc:=Z U d;have Q:=Z R2 d;have V:=Z S d;have UQ:=O (Vx.below d);have Tr:=O (aF.below X d);have RD:=ac o d;clear U R2 S Vx X o;clear d
 cases vb with
 |false=>
  have m:A (er=1):=O (by rw[a2];unfold eY;rw[jA bm.symm])
  go_upto_region 2 with fail
  refine jI ?_;refine df (v:=jf B) aj (gF jF I K I I V) (L ?_);refine jt I λ_ r=>jE 29 _ _ I (s+1+1) B I I 29 _ V.out K I a3 (r _ _ ?_)
  clear r;refine L ?_;refine bH ?_;rename_i KR Wg XR;refine Wg _ _ ?_;refine wp_ret ?_;show jZ _ _ P .ret _ _;exact j0 (fq I _ _ (s+1+1) 29 B (0,0) _ I (jJ _ _ _ _ _ _ V.out) jF I K) I (HP _ _ ⟨λh=>js (m.symm.trans h) G,λ_=>by rw[Zn,m];kernel_rfl,jK RD.out (by rw[HG];omega) _⟩)
 |true=>
 go_upto_region 3 with fail
 refine jI ?_;refine kw I 63 _ I (s+1) I 63 C (0,0) _ Q.out jT I UG ?_
 go_wp2_with fail
 refine(HK x1 Tr).mono ?_;rintro e x2 ⟨rfl,d⟩;have Sy:=Z Sc d;have M:=Z Q d;have H:=Z V d;have Vv:=O (UQ.below d);have Ta:=O (aF.below Tr d);have RE:=ac RD d;clear Sc Q V UQ Tr RD;clear d
 rcases TI.out with⟨f,rfl⟩|⟨f,rfl⟩
 case inr=>
  have m:A (er=220):=O (by rw[a2];unfold eY;rw[jG (by rw[<-bm];decide),jA (by rw[<-bT];decide)])
  go_upto_region 5 with fail
  refine jI ?_;refine df (v:=jf B) aj (gF jF I K I I H) (L ?_);refine bH ?_;refine jt I λ_ r=>jE 29 _ _ I (s+1+1) B I I 29 _ H.out K I a3 (r _ _ ?_)
  clear r;refine L ?_;refine bH ?_;rename_i KR Wg XR;refine Wg _ _ ?_;refine wp_ret ?_;show jZ _ _ P .ret _ _;exact j0 (fq I _ _ (s+1+1) 29 B (0,0) _ I (jJ _ _ _ _ _ _ H.out) jF I K) I (HP _ _ ⟨λh=>js (m.symm.trans h) G,λ_=>by rw[Zn,m];kernel_rfl,jK RE.out (by rw[HG];omega) _⟩)
 have VF:=O f;clear f;have f:A (eY g c=if onB g c=jp then 220 else if cK g c.author c.chg≠0 then cK g c.author c.chg else if iu g c=jp then 220
  else if kK (dO g c.author c.chg) c.r c.s (dJ c)=jp then 222 else eT (aV g.tree c.chg) c.author c.path):=O (by unfold eY;rw[jG (by rw[<-bm];decide),jG (by rw[<-bT];decide)])
 obtain⟨fd,z⟩:=J g.folder;obtain⟨ep,i⟩:=J g.epoch;obtain⟨cf,al⟩:=J c.folder;obtain⟨u,au⟩:=J c.epoch;rw[<-z,<-i]at bd;rw[<-al,<-au]at t;have bA:=O z;have Uy:=O i;have b5:=O al;have bn:=O au;have k:co g:=by
  by_cases hx:co g
  ·exact hx
  have h2:=bm.out;rw[ij hx]at h2;cases h2
 have Zi:=O k;have e8:0<=ep:=by rw[i];exact k.ep.1
 have e9:ep<=1099511627776:=by rw[i];exact k.ep.2
 clear z i al au k;have c0:=ae M t.1;have c1:=ae M t.2.1;have a0:=ae Sy bd.1;have bq:=ae Sy bd.2.1;have SL:=O (cA _ _ Sy.out);have bc:=O (cL _ _ M.out);obtain⟨TL,i⟩:=J ((g.last.map v8).toArray);obtain⟨TP,k⟩:=J ((c.parent.map v8).toArray);obtain⟨ca,al⟩:=J (decide (c.parent=g.last));have bh:=O i;have bk:=O k;have cb:=O al;have bB:∀z,(Op.equalIn 10000 23 (jf TP) (jf TL)).run jm z=.ok ca z:=by
  rw[i,k,al];exact λz=>sH c.parent g.last T4 Ti z
 clear i k al
 by_cases h1:cf=fd
 case neg=>
  have bg:(cf==fd)=jp:=ah h1;have cc:(cf !=fd)=jh:=ah h1;have m:A (er=220):=O (by rw[a2,f,jA (by unfold onB;rw[<-b5,<-bA,bg];rfl)]);clear h1
  go_upto_region 7 with fail
  refine jI ?_;refine df (v:=jf B) aj (gF jF I K I I H) (L ?_);refine jt I λ_ r=>jE 29 _ _ I (s+1+1) B I I 29 _ H.out K I a3 (r _ _ ?_)
  clear r;refine L ?_;refine bH ?_;rename_i KR Wg XR;refine Wg _ _ ?_;refine wp_ret ?_;show jZ _ _ P .ret _ _;exact j0 (fq I _ _ (s+1+1) 29 B (0,0) _ I (jJ _ _ _ _ _ _ H.out) jF I K) I (HP _ _ ⟨λh=>js (m.symm.trans h) G,λ_=>by rw[Zn,m];kernel_rfl,jK RE.out (by rw[HG];omega) _⟩)
 have bg:(cf==fd)=jh:=ah h1;have cc:(cf !=fd)=jp:=ah h1;clear h1
 by_cases h2:u=ep+1
 case neg=>
  have bb:(u==ep+1)=jp:=ah h2;have cd:(u !=ep+1)=jh:=ah h2;have m:A (er=220):=O (by rw[a2,f,jA (by unfold onB;rw[<-bn,<-Uy,bb];simp)]);clear h2
  go_upto_region 7 with fail
  refine jI ?_;refine df (v:=jf B) aj (gF jF I K I I H) (L ?_);refine jt I λ_ r=>jE 29 _ _ I (s+1+1) B I I 29 _ H.out K I a3 (r _ _ ?_)
  clear r;refine L ?_;refine bH ?_;rename_i KR Wg XR;refine Wg _ _ ?_;refine wp_ret ?_;show jZ _ _ P .ret _ _;exact j0 (fq I _ _ (s+1+1) 29 B (0,0) _ I (jJ _ _ _ _ _ _ H.out) jF I K) I (HP _ _ ⟨λh=>js (m.symm.trans h) G,λ_=>by rw[Zn,m];kernel_rfl,jK RE.out (by rw[HG];omega) _⟩)
 have bb:(u==ep+1)=jh:=ah h2;have cd:(u !=ep+1)=jp:=ah h2;have fe:=O h2;clear h2;have a1:(jm.info? 23).map (·.size)=ja (c.parent.map v8).length:=by rw[jN,T4];kernel_rfl
 have i:(jm.info? 23).map (·.size)=ja (g.last.map v8).length:=by rw[jN,Ti];kernel_rfl
 have bo:=O a1;have Wm:=O i;clear a1 i;have i:IntKind.i64.wrap (ep+1)=ep+1:=IntWalk.i64_in _ Y
 go_upto_region 6 with fail
 refine jI ?_;iterate 15 refine bH ?_
 refine k8 aj λ_ r=>wp_load_mid 23 _ I (s+1) 2 I (c.parent.map v8) _ bc.out qk I bo (r _ _ ?_)
 rw[<-bk];refine L ?_;refine bH ?_;refine k8 aj λ_ r=>wp_load_mid 23 _ I s 2 I (g.last.map v8) _ SL.out qk I Wm (r _ _ ?_)
 rw[<-bh];refine L ?_;clear i
 cases ca with
 |false=>
  have m:A (er=220):=O (by rw[a2,f,jA (by unfold onB;rw[<-cb];simp)])
  go_upto_region 7 with fail
  refine jI ?_;refine df (v:=jf B) aj (gF jF I K I I H) (L ?_);refine jt I λ_ r=>jE 29 _ _ I (s+1+1) B I I 29 _ H.out K I a3 (r _ _ ?_)
  clear r;refine L ?_;refine bH ?_;rename_i KR Wg XR;refine Wg _ _ ?_;refine wp_ret ?_;show jZ _ _ P .ret _ _;exact j0 (fq I _ _ (s+1+1) 29 B (0,0) _ I (jJ _ _ _ _ _ _ H.out) jF I K) I (HP _ _ ⟨λh=>js (m.symm.trans h) G,λ_=>by rw[Zn,m];kernel_rfl,jK RE.out (by rw[HG];omega) _⟩)
 |true=>
 have i:A (eY g c=if cK g c.author c.chg≠0 then cK g c.author c.chg else if iu g c=jp then 220
  else if kK (dO g c.author c.chg) c.r c.s (dJ c)=jp then 222 else eT (aV g.tree c.chg) c.author c.path):=O (by rw[f,jG (by unfold onB;rw[<-b5,<-bA,<-bn,<-Uy,bg,bb,<-cb];decide)])
 obtain⟨au,k⟩:=J c.author;rw[<-k]at t HN bl bv;have a4:=O k;clear k;have k:=ae M t.2.2.1;have Ug:=ae M t.2.2.2.1
 go_upto_region 8 with fail
 clear c0 c1 a0 bq SL bc bB bg cc bb cd bh bk bo Wm f;refine jI ?_;refine kw I 29 _ I s I 29 aa (0,0) _ Sy.out jF I Uk ?_
 go_wp2_with fail
 refine(HN x2 Vv.out (by rw[<-bf];exact EK.At.of_sl (E:=EC) Ta.chg)).mono ?_;rintro e x3 ⟨ad,rfl,hu,d⟩;have Wo:=O (EK.At.of_own (E:=EB0) hu);clear hu k Ug;have S2:=Z Sy d;have Sl:=Z M d;have f:=Z H d;have al:=O (Vv.below d);have Tq:=O (aF.below Ta d);have RI:=ac RE d;clear Sy M H Vv Ta RE;clear d;obtain⟨pu,fm,rfl,-,-⟩:=Wo.form;obtain⟨nu,k⟩:=J ((dj g au c.chg).length);rw[<-k]at Wo⊢;have fo:=O k;clear k
 rcases bv.out with⟨hx,-⟩|⟨-,-,hx⟩|⟨-,hf,hp,hx⟩
 case inl=>cases hx
 case inr.inl=>
  have m:A (er=221):=O (by rw[a2,i,<-a4,hx];rfl);rw[hx];clear hx
  go_upto_region 10 with fail
  refine jI ?_;refine df (v:=jf B) aj (gF jF I K I I f) (L ?_);refine bH ?_;refine jt I λ_ r=>jE 29 _ _ I (s+1+1) B I I 29 _ f.out K I a3 (r _ _ ?_)
  clear r;refine L ?_;refine bH ?_;rename_i KR Wg XR;refine Wg _ _ ?_;refine wp_ret ?_;show jZ _ _ P .ret _ _;exact j0 (fq I _ _ (s+1+1) 29 B (0,0) _ I (jJ _ _ _ _ _ _ f.out) jF I K) I (HP _ _ ⟨λh=>js (m.symm.trans h) G,λ_=>by rw[Zn,m];kernel_rfl,jK RI.out (by rw[HG];omega) _⟩)
 rw[hx];have Ui:A (eY g c=if iu g c=jp then 220 else if kK (dO g c.author c.chg) c.r c.s (dJ c)=jp then 222 else eT (aV g.tree c.chg) c.author c.path):=O (by rw[i,<-a4,hx];rfl);have WI:=O (nB.1 hf);have ce:=O (rZ.1 hp);clear hf hp hx i;have Wn:=O cX.lens;obtain⟨eb,i⟩:=J (decide (c.box.map (λb:Bx=>(b.lev,b.node))=(dj g au c.chg).map (λx:jl×jl=>x)));have bh:=O i;obtain⟨ew,k⟩:=J (decide (c.wel.map Wl.dev=(dD au c.chg).map ak.d));have bq:=O k;clear i k
 go_upto_region 13 with fail
 cases eb with
 |false=>
  have m:A (er=220):=O (by rw[a2,Ui,jA (by unfold iu;rw[<-a4];have h:=bh.out;rw[List.map_id']at h;rw[<-h];rfl)]);refine jY ?_;refine bY (λk=>k.heap[s+1]?=ja (jd C 63 (0,0))) (.t 0 (.t 1 (.t 2 (.t 3 (.o 4 (.t 5 (.t 6 (.t 7 (.t 8 (.t 9 (.t 10 (.t 11 (.t 12 (.t 14 (.o 13 (.o 15 (.t 16 (.t 17 .done)))))))))))))))))) ag ag ag G (λ_ _ _ _ h=>h) Sl ?_;obtain⟨z0,RQ⟩:=J x3.drew;have d:=bz x3;rw[<-RQ]at d⊢;have U:=Z S2 d;have R2:=Z Sl d;have S:=Z f d;have Vx:=O (al.below d);have X:=O (aF.below Tq d);have o:=ac RI d;have ZP:=O (Wo.below d);clear d RQ S2 Sl f al Tq RI Wo;refine aL ?_
  (refine aE (v:=?_) I aj (λk i=>?_) ?_;rotate_left;(have b0:=ae i t.2.2.1;have b1:=ae i t.2.2.2.1;have b2:=ae i t.2.2.2.2.2.1;have b3:=ae i t.2.2.2.2.2.2.1;go_simp;with_reducible rfl);refine L ?_)
  iterate 2 refine aL ?_
  refine ar I (λK' r=>?_);go_simp;refine(yy c.box (dj g au c.chg) _ _ z0 (by rw[<-bw];exact X.box) ZP Wn.2.2.1 (zM g au c.chg)).mono ?_;rintro e z1 ⟨rfl,d⟩;rw[<-bh];have Sc:=Z U d;have Q:=Z R2 d;have V:=Z S d;have UQ:=O (Vx.below d);have Tr:=O (aF.below X d);have RD:=ac o d;have Vw:=O (ZP.below d);clear U R2 S Vx X o ZP;clear d;refine r _ _ Q.out λ_=>?_
  clear r;refine L ?_;iterate 2 refine aL ?_
  iterate 7 refine ik ?_
  refine ar I (λK' r=>?_);rw[jG (qv.1 aj)];refine r _ _ Q.out λ_=>?_
  clear r;refine L ?_;refine ar I (λK' r=>?_);rw[jG (qv.1 aj)];refine r _ _ Q.out λ_=>?_
  clear r;refine L ?_;refine ik ?_;refine aL ?_;refine jV ?_
  go_upto_region 14 with fail
  refine jI ?_;refine df (v:=jf B) aj (gF jF I K I I V) (L ?_);refine jt I λ_ r=>jE 29 _ _ I (s+1+1) B I I 29 _ V.out K I a3 (r _ _ ?_)
  clear r;refine L ?_;refine bH ?_;rename_i KR Wg XR;refine Wg _ _ ?_;refine wp_ret ?_;show jZ _ _ P .ret _ _;exact j0 (fq I _ _ (s+1+1) 29 B (0,0) _ I (jJ _ _ _ _ _ _ V.out) jF I K) I (HP _ _ ⟨λh=>js (m.symm.trans h) G,λ_=>by rw[Zn,m];kernel_rfl,jK RD.out (by rw[HG];omega) _⟩)
 |true=>
 cases ew with
 |false=>
  have m:A (er=220):=O (by rw[a2,Ui,jA (by unfold iu;rw[<-a4,<-bq];simp)]);refine jY ?_;refine bY (λk=>k.heap[s+1]?=ja (jd C 63 (0,0))) (.t 0 (.t 1 (.t 2 (.t 3 (.o 4 (.t 5 (.t 6 (.t 7 (.t 8 (.t 9 (.t 10 (.t 11 (.t 12 (.t 14 (.o 13 (.o 15 (.t 16 (.t 17 .done)))))))))))))))))) ag ag ag G (λ_ _ _ _ h=>h) Sl ?_;obtain⟨z0,RQ⟩:=J x3.drew;have d:=bz x3;rw[<-RQ]at d⊢;have U:=Z S2 d;have R2:=Z Sl d;have S:=Z f d;have Vx:=O (al.below d);have X:=O (aF.below Tq d);have o:=ac RI d;have ZP:=O (Wo.below d);clear d RQ S2 Sl f al Tq RI Wo;refine aL ?_
  (refine aE (v:=?_) I aj (λk i=>?_) ?_;rotate_left;(have b0:=ae i t.2.2.1;have b1:=ae i t.2.2.2.1;have b2:=ae i t.2.2.2.2.2.1;have b3:=ae i t.2.2.2.2.2.2.1;go_simp;with_reducible rfl);refine L ?_)
  iterate 2 refine aL ?_
  refine ar I (λK' r=>?_);go_simp;refine(yy c.box (dj g au c.chg) _ _ z0 (by rw[<-bw];exact X.box) ZP Wn.2.2.1 (zM g au c.chg)).mono ?_;rintro e z1 ⟨rfl,d⟩;rw[<-bh];have Sc:=Z U d;have Q:=Z R2 d;have V:=Z S d;have UQ:=O (Vx.below d);have Tr:=O (aF.below X d);have RD:=ac o d;have Vw:=O (ZP.below d);clear U R2 S Vx X o ZP;clear d;refine r _ _ Q.out λ_=>?_
  clear r;refine L ?_;iterate 3 refine aL ?_
  (refine aE (v:=?_) I aj (λk i=>?_) ?_;rotate_left;(have b0:=ae i t.2.2.1;have b1:=ae i t.2.2.2.1;have b2:=ae i t.2.2.2.2.2.1;have b3:=ae i t.2.2.2.2.2.2.1;go_simp;with_reducible rfl);refine L ?_)
  refine aL ?_
  (refine aE (v:=?_) I aj (λk i=>?_) ?_;rotate_left;(have b0:=ae i t.2.2.1;have b1:=ae i t.2.2.2.1;have b2:=ae i t.2.2.2.2.2.1;have b3:=ae i t.2.2.2.2.2.2.1;go_simp;with_reducible rfl);refine L ?_)
  refine aL ?_
  (refine aE (v:=?_) I aj (λk i=>?_) ?_;rotate_left;(have b0:=ae i t.2.2.1;have b1:=ae i t.2.2.2.1;have b2:=ae i t.2.2.2.2.2.1;have b3:=ae i t.2.2.2.2.2.2.1;go_simp;with_reducible rfl);refine L ?_)
  refine aL ?_;refine ar I (λK' r=>?_);rw[jA aj];go_simp;refine(wW au c.chg _ z1 (by rw[<-bf];exact EK.At.of_sl (E:=EC) Tr.chg) WI.once Wn.1).mono ?_;rintro e z2 ⟨ad,rfl,hu,d⟩;have bc:=O hu;clear hu;obtain⟨py,dd,rfl,-,-⟩:=bc.form;have Sy:=Z Sc d;have M:=Z Q d;have H:=Z V d;have Vv:=O (UQ.below d);have Ta:=O (aF.below Tr d);have RE:=ac RD d;have bk:=O (Vw.below d);clear Sc Q V UQ Tr RD Vw;clear d;refine r _ _ M.out λ_=>?_
  clear r;refine L ?_;refine ar I (λK' r=>?_);rw[jA aj];go_simp;refine(Da c.wel (dD au c.chg) _ _ z2 (by rw[<-b4];exact Ta.wel) bc Wn.2.2.2 (by have:=BE au c.chg;have:=Wn.1;omega)).mono ?_;rintro e z3 ⟨rfl,d⟩;rw[<-bq];have S2:=Z Sy d;have Sl:=Z M d;have f:=Z H d;have al:=O (Vv.below d);have Tq:=O (aF.below Ta d);have RI:=ac RE d;have Wo:=O (bk.below d);clear Sy M H Vv Ta RE bk bc;clear d;refine r _ _ Sl.out λ_=>?_
  clear r;refine L ?_;iterate 2 refine aL ?_
  refine jV ?_
  go_upto_region 14 with fail
  refine jI ?_;refine df (v:=jf B) aj (gF jF I K I I f) (L ?_);refine jt I λ_ r=>jE 29 _ _ I (s+1+1) B I I 29 _ f.out K I a3 (r _ _ ?_)
  clear r;refine L ?_;refine bH ?_;rename_i KR Wg XR;refine Wg _ _ ?_;refine wp_ret ?_;show jZ _ _ P .ret _ _;exact j0 (fq I _ _ (s+1+1) 29 B (0,0) _ I (jJ _ _ _ _ _ _ f.out) jF I K) I (HP _ _ ⟨λh=>js (m.symm.trans h) G,λ_=>by rw[Zn,m];kernel_rfl,jK RI.out (by rw[HG];omega) _⟩)
 |true=>
 have WK:A (eY g c=if kK (dO g c.author c.chg) c.r c.s (dJ c)=jp then 222 else eT (aV g.tree c.chg) c.author c.path):=O (by rw[Ui,jG (by unfold iu;rw[<-a4,<-bq];have h:=bh.out;rw[List.map_id']at h;rw[<-h];decide)]);refine jY ?_;refine bY (λk=>k.heap[s+1]?=ja (jd C 63 (0,0))) (.t 0 (.t 1 (.t 2 (.t 3 (.o 4 (.t 5 (.t 6 (.t 7 (.t 8 (.t 9 (.t 10 (.t 11 (.t 12 (.t 14 (.o 13 (.o 15 (.t 16 (.t 17 .done)))))))))))))))))) ag ag ag G (λ_ _ _ _ h=>h) Sl ?_;obtain⟨z0,RQ⟩:=J x3.drew;have d:=bz x3;rw[<-RQ]at d⊢;have U:=Z S2 d;have R2:=Z Sl d;have S:=Z f d;have Vx:=O (al.below d);have X:=O (aF.below Tq d);have o:=ac RI d;have ZP:=O (Wo.below d);clear d RQ S2 Sl f al Tq RI Wo;refine aL ?_
 (refine aE (v:=?_) I aj (λk i=>?_) ?_;rotate_left;(have b0:=ae i t.2.2.1;have b1:=ae i t.2.2.2.1;have b2:=ae i t.2.2.2.2.2.1;have b3:=ae i t.2.2.2.2.2.2.1;go_simp;with_reducible rfl);refine L ?_)
 iterate 2 refine aL ?_
 refine ar I (λK' r=>?_);go_simp;refine(yy c.box (dj g au c.chg) _ _ z0 (by rw[<-bw];exact X.box) ZP Wn.2.2.1 (zM g au c.chg)).mono ?_;rintro e z1 ⟨rfl,d⟩;rw[<-bh];have Sc:=Z U d;have Q:=Z R2 d;have V:=Z S d;have UQ:=O (Vx.below d);have Tr:=O (aF.below X d);have RD:=ac o d;have Vw:=O (ZP.below d);clear U R2 S Vx X o ZP;clear d;refine r _ _ Q.out λ_=>?_
 clear r;refine L ?_;iterate 3 refine aL ?_
 (refine aE (v:=?_) I aj (λk i=>?_) ?_;rotate_left;(have b0:=ae i t.2.2.1;have b1:=ae i t.2.2.2.1;have b2:=ae i t.2.2.2.2.2.1;have b3:=ae i t.2.2.2.2.2.2.1;go_simp;with_reducible rfl);refine L ?_)
 refine aL ?_
 (refine aE (v:=?_) I aj (λk i=>?_) ?_;rotate_left;(have b0:=ae i t.2.2.1;have b1:=ae i t.2.2.2.1;have b2:=ae i t.2.2.2.2.2.1;have b3:=ae i t.2.2.2.2.2.2.1;go_simp;with_reducible rfl);refine L ?_)
 refine aL ?_
 (refine aE (v:=?_) I aj (λk i=>?_) ?_;rotate_left;(have b0:=ae i t.2.2.1;have b1:=ae i t.2.2.2.1;have b2:=ae i t.2.2.2.2.2.1;have b3:=ae i t.2.2.2.2.2.2.1;go_simp;with_reducible rfl);refine L ?_)
 refine aL ?_;refine ar I (λK' r=>?_);rw[jA aj];go_simp;refine(wW au c.chg _ z1 (by rw[<-bf];exact EK.At.of_sl (E:=EC) Tr.chg) WI.once Wn.1).mono ?_;rintro e z2 ⟨ad,rfl,hu,d⟩;have bc:=O hu;clear hu;obtain⟨py,dd,rfl,-,-⟩:=bc.form;have Sy:=Z Sc d;have M:=Z Q d;have H:=Z V d;have Vv:=O (UQ.below d);have Ta:=O (aF.below Tr d);have RE:=ac RD d;have bk:=O (Vw.below d);clear Sc Q V UQ Tr RD Vw;clear d;refine r _ _ M.out λ_=>?_
 clear r;refine L ?_;refine ar I (λK' r=>?_);rw[jA aj];go_simp;refine(Da c.wel (dD au c.chg) _ _ z2 (by rw[<-b4];exact Ta.wel) bc Wn.2.2.2 (by have:=BE au c.chg;have:=Wn.1;omega)).mono ?_;rintro e z3 ⟨rfl,d⟩;rw[<-bq];have S2:=Z Sy d;have Sl:=Z M d;have f:=Z H d;have al:=O (Vv.below d);have Tq:=O (aF.below Ta d);have RI:=ac RE d;have Wo:=O (bk.below d);clear Sy M H Vv Ta RE bk bc;clear d;refine r _ _ Sl.out λ_=>?_
 clear r;refine L ?_;iterate 2 refine aL ?_
 refine jV ?_;clear al Tq Wo
 go_upto_region 15 with fail
 refine jY ?_;refine bY (λk=>k.heap[s]?=ja (jd aa 29 (0,0))/\k.heap[s+1]?=ja (jd C 63 (0,0))) (.t 0 (.t 1 (.t 2 (.t 3 (.t 4 (.t 6 (.t 8 (.t 9 (.o 5 (.o 7 (.o 10 (.t 11 .done)))))))))))) ag ag ag G (λ_ _ _ _ h=>h) ⟨S2,Sl⟩ ?_;obtain⟨y0,RQ⟩:=J z3.drew;have d:=bz z3;rw[<-RQ]at d⊢;have Yq:=Z S2 d;have Uz:=Z Sl d;have UA:=Z f d;have TR:=ac RI d;clear d RQ S2 Sl f RI;have U:=Yq;clear Yq;have R2:=Uz;clear Uz;have S:=UA;clear UA;have o:=TR;clear TR
 (refine aE (v:=jf aa) I aj (λk i=>gF jF I Uk I I i.1) (L ?_))
 refine aL ?_
 (refine aE (v:=?_) I aj (λk i=>?_) ?_;rotate_left;(have b0:=ae i.2 t.2.2.1;have b1:=ae i.2 t.2.2.2.1;have b2:=ae i.2 t.2.2.2.2.2.2.2.1;have b3:=ae i.2 t.2.2.2.2.2.2.2.2;go_simp;with_reducible rfl);refine L ?_)
 refine aL ?_
 (refine aE (v:=?_) I aj (λk i=>?_) ?_;rotate_left;(have b0:=ae i.2 t.2.2.1;have b1:=ae i.2 t.2.2.2.1;have b2:=ae i.2 t.2.2.2.2.2.2.2.1;have b3:=ae i.2 t.2.2.2.2.2.2.2.2;go_simp;with_reducible rfl);refine L ?_)
 (refine aE (v:=jf C) I aj (λk i=>gF jT I UG I I i.2) (L ?_))
 refine aL ?_
 (refine aE (v:=?_) I aj (λk i=>?_) ?_;rotate_left;(have b0:=ae i.2 t.2.2.1;have b1:=ae i.2 t.2.2.2.1;have b2:=ae i.2 t.2.2.2.2.2.2.2.1;have b3:=ae i.2 t.2.2.2.2.2.2.2.2;go_simp;with_reducible rfl);refine L ?_)
 refine ar I (λK' r=>?_);go_simp;refine(bl y0 Zi WI ce (br.below o) (by rw[<-bf];exact(EK.At.of_sl (E:=EC) ba.chg).below o)).mono ?_;rintro e y1 ⟨rfl,d⟩;have Sc:=Z U d;have Q:=Z R2 d;have V:=Z S d;have RD:=ac o d;clear U R2 S o;clear d;refine r _ _ ⟨Sc,Q⟩ λ_=>?_
 clear r;refine L ?_;refine ar I (λK' r=>?_);go_simp;refine(Yu y1 (ba.below RD) (bs.below RD)).mono ?_;rintro e y2 ⟨D,rfl,X,d⟩;have al:=O X;clear X;have Sy:=Z Sc d;have M:=Z Q d;have H:=Z V d;have RE:=ac RD d;clear Sc Q V RD;clear d;refine r _ _ ⟨Sy,M⟩ λ_=>?_
 clear r;refine L ?_;refine ar I (λK' r=>?_);go_simp;refine(LQ (dO g au c.chg) c.r c.s (dJ c) _ (by rw[Ku];decide) y2 al (bs.below RE)).mono ?_;rintro e y3 ⟨vr,rfl,X,d⟩;have bc:=O X;clear X;have S2:=Z Sy d;have Sl:=Z M d;have f:=Z H d;have RI:=ac RE d;clear Sy M H RE al;clear d;refine r _ _ ⟨S2,Sl⟩ λ_=>?_
 clear r;refine L ?_;refine aL ?_;refine jV ?_;have X:vr=kK (dO g au c.chg) c.r c.s (dJ c):=by rw[Bool.eq_iff_iff,yR];exact bc
 have TY:=O X;clear X bc
 cases vr with
 |false=>
  have m:A (er=222):=O (by rw[a2,WK,jA (by rw[<-a4];exact TY.symm)])
  go_upto_region 16 with fail
  refine jI ?_;refine df (v:=jf B) aj (gF jF I K I I f) (L ?_);refine jt I λ_ r=>jE 29 _ _ I (s+1+1) B I I 29 _ f.out K I a3 (r _ _ ?_)
  clear r;refine L ?_;refine bH ?_;rename_i KR Wg XR;refine Wg _ _ ?_;refine wp_ret ?_;show jZ _ _ P .ret _ _;exact j0 (fq I _ _ (s+1+1) 29 B (0,0) _ I (jJ _ _ _ _ _ _ f.out) jF I K) I (HP _ _ ⟨λh=>js (m.symm.trans h) G,λ_=>by rw[Zn,m];kernel_rfl,jK RI.out (by rw[HG];omega) _⟩)
 |true=>
 have Yf:A (er=eT (aV g.tree c.chg) au c.path):=O (by rw[a2,WK,jG (by rw[<-a4,<-TY];decide),<-a4]);obtain⟨F,a1⟩:=J (idC c);have bc:F.length=32:=by rw[a1];exact tJ c
 have bo:=O a1;have al:=O bc;obtain⟨X,dn,hT,bI,hX,bK,bM,cj,bk⟩:=Pj fd u F bc;have ck:B.size=X.size:=by rw[bk];exact bO
 have dr:=O bI;have ds:A (∀W,aF (·<W.heap.size) W c q->da W->jz jm 23 #[jf C] W λe w'=>e=jv (jf dn)/\jr W W w'):=O (by rw[hT,a1];exact bN);have bB:=O bK;have dv:=O bM;have ea:=O cj;have ec:=O hX;have ed:=O ck;have bC:=O bk;clear hT hX bK bM cj bI ck bk a1 bc
 go_upto_region 17 with fail
 refine jY ?_;refine bY (λk=>k.heap[s]?=ja (jd aa 29 (0,0))/\k.heap[s+1]?=ja (jd C 63 (0,0))) (.t 0 (.t 1 (.t 2 (.t 3 (.t 4 (.o 5 (.t 6 (.o 7 .done)))))))) ag ag ag G (λ_ _ _ _ h=>h) ⟨S2,Sl⟩ ?_;obtain⟨u0,RQ⟩:=J y3.drew;have d:=bz y3;rw[<-RQ]at d⊢;have Yq:=Z S2 d;have Uz:=Z Sl d;have UA:=Z f d;have TR:=ac RI d;clear d RQ S2 Sl f RI;have U:=Yq;clear Yq;have R2:=Uz;clear Uz;have S:=UA;clear UA;have o:=TR;clear TR;refine aL ?_
 (refine aE (v:=?_) I aj (λk i=>?_) ?_;rotate_left;(have b0:=ae i.1 bd.1;have b1:=ae i.2 t.2.1;go_simp;with_reducible rfl);refine L ?_)
 refine aL ?_
 (refine aE (v:=?_) I aj (λk i=>?_) ?_;rotate_left;(have b0:=ae i.1 bd.1;have b1:=ae i.2 t.2.1;go_simp;with_reducible rfl);refine L ?_)
 (refine aE (v:=jf C) I aj (λk i=>gF jT I UG I I i.2) (L ?_))
 refine ar I (λK' r=>?_);go_simp;refine(ds u0 (ba.below o) (bs.below o)).mono ?_;rintro e u1 ⟨rfl,d⟩;have Sc:=Z U d;have Q:=Z R2 d;have V:=Z S d;have RD:=ac o d;clear U R2 S o;clear d;refine r _ _ ⟨Sc,Q⟩ λ_=>?_
 clear r;refine L ?_
 (refine aE (v:=jf X) I aj (λk i=>by rw[ec];exact NK (f:=fd) (e:=u) dr I ag k) ?_;refine L ?_)
 refine ar I (λK' r=>?_);rw[jA aj];refine jE 29 _ _ I (s+1+1) X I I 29 _ V.out dv ed ea (r _ _ ⟨(jO _ _ _ _ Y).trans Sc,(jO _ _ _ _ Y).trans Q⟩ λ_=>?_);clear r;have Uu:A ((u1.setRow (s+1+1) X).heap[s]?=ja (jd aa 29 (0,0))):=O ((jO _ _ _ _ Y).trans Sc);have UH:A ((u1.setRow (s+1+1) X).heap[s+1]?=ja (jd C 63 (0,0))):=O ((jO _ _ _ _ Y).trans Q);have Vl:A ((u1.setRow (s+1+1) X).heap[s+1+1]?=ja (jd X 29 (0,0))):=O (jJ _ _ _ _ _ _ V.out);have S6:=O (jK RD (show w.heap.size<=s+1+1 by rw[HG];omega) X);generalize u1.setRow (s+1+1) X=u9 at Uu UH Vl S6⊢;clear Sc Q V RD;refine L ?_;refine jV ?_;obtain⟨re,a1⟩:=J (eT (aV g.tree c.chg) au c.path);have bc:(aV g.tree c.chg).length<=800000:=by have:=uF g.tree c.chg;have:=Vq.out;have:=WI.len;omega
 have bk:aH au:=by
  obtain⟨h1,h2⟩:=mw Zi WI ce;exact aH.of Y
 have bI:∀j,aH (c.path.getD j 0):=λj=>by
  rcases Nat.lt_or_ge j c.path.length with h1|h1
  ·rw[eE _ h1];exact yB (VF.path _ (List.getElem_mem h1))
  rw[show c.path.getD j 0=0 by simp[nn,h1]];exact aH.of Y
 have Wh:A (∀W v,bp W v (aV g.tree c.chg)->cV W (jb pp np cp) c.path->jz jm 60 #[jf #[v],N T au,jb pp np cp] W λe w'=>∃x,e=jv (jC #[jf #[x],N T re])/\(bp w' x (lx (aV g.tree c.chg) au c.path)/\Fr W.heap.size x)/\jr W W w'):=O (by
  rw[a1];exact λW v hv hp=>MQ _ v au c.path _ W hv bc bk hp Wn.2.1 bI)
 have cj:=O a1;have eg:A (cV w (jb pp np cp) c.path):=O (by rw[<-db];exact ay.ints ba.path);clear a1 bc bk bI
 go_upto_region 18 with fail
 refine jY ?_;refine bY (λk=>k.heap[s]?=ja (jd aa 29 (0,0))/\k.heap[s+1]?=ja (jd C 63 (0,0))) (.t 0 (.t 1 (.t 2 (.t 4 (.t 5 (.t 6 (.t 7 (.o 3 (.o 8 (.t 9 (.t 10 (.t 11 (.t 12 (.o 13 (.t 14 .done))))))))))))))) ag ag ag G (λ_ _ _ _ h=>h) ⟨Uu,UH⟩ ?_;obtain⟨v0,RQ⟩:=J u9.drew;have d:=bz u9;rw[<-RQ]at d⊢;have Yq:=Z Uu d;have Uz:=Z UH d;have UA:=Z Vl d;have TR:=ac S6 d;clear d RQ Uu UH Vl S6;have U:=Yq;clear Yq;have R2:=Uz;clear Uz;have S:=UA;clear UA;have o:=TR;clear TR
 (refine aE (v:=jf aa) I aj (λk i=>gF jF I Uk I I i.1) (L ?_))
 refine aL ?_
 (refine aE (v:=?_) I aj (λk i=>?_) ?_;rotate_left;(have b0:=ae i.2 t.2.2.1;have b1:=ae i.2 t.2.2.2.1;have b2:=ae i.2 t.2.2.2.2.1;go_simp;with_reducible rfl);refine L ?_)
 refine aL ?_
 (refine aE (v:=?_) I aj (λk i=>?_) ?_;rotate_left;(have b0:=ae i.2 t.2.2.1;have b1:=ae i.2 t.2.2.2.1;have b2:=ae i.2 t.2.2.2.2.1;go_simp;with_reducible rfl);refine L ?_)
 refine aL ?_
 (refine aE (v:=?_) I aj (λk i=>?_) ?_;rotate_left;(have b0:=ae i.2 t.2.2.1;have b1:=ae i.2 t.2.2.2.1;have b2:=ae i.2 t.2.2.2.2.1;go_simp;with_reducible rfl);refine L ?_)
 refine ar I (λK' r=>?_);go_simp;refine(Yr v0 WI (br.below o) (by rw[<-bf];exact(EK.At.of_sl (E:=EC) ba.chg).below o)).mono ?_;rintro e v1 ⟨u1,rfl,hu,d⟩;have i:=O hu;clear hu;obtain⟨p2,n2,c2,rfl⟩:=iW i;have Sc:=Z U d;have Q:=Z R2 d;have V:=Z S d;have RD:=ac o d;clear U R2 S o;clear d;refine r _ _ ⟨Sc,Q⟩ λ_=>?_
 clear r;refine L ?_;refine ar I (λK' r=>?_);go_simp;refine(Wh v1 _ i.out (dS eg RD)).mono ?_;rintro e v2 ⟨x9,rfl,hx,d⟩;have o:=O hx.1;have ej:=O (hx.2.mono RD.size);clear hx;obtain⟨S,nx,U,rfl⟩:=iW o;have Sy:=Z Sc d;have M:=Z Q d;have H:=Z V d;have RE:=ac RD d;clear Sc Q V RD i;clear d;refine r _ _ ⟨Sy,M⟩ λ_=>?_
 clear r;refine L ?_;iterate 4 refine aL ?_
 refine ar I (λK' r=>?_);rw[jA aj];refine qh 27 _ _ I (s+1+1) 35 #[jb S nx U] I I (mW H.out (by rw[bC];exact jw _)) oW (by simp[kl]) (r _ _ ⟨(fR _ Y).trans Sy,(fR _ Y).trans M⟩ λ_=>?_);clear r;have W:v2.setCells (s+1+1) 35 (#[jb S nx U]:ju jo).toList=v2.setCell ⟨s+1+1,35,jc⟩ (jb S nx U):=I;rw[W];have Uu:A ((v2.setCell ⟨s+1+1,35,jc⟩ (jb S nx U)).heap[s]?=ja (jd aa 29 (0,0))):=O ((fR _ Y).trans Sy);have UH:A ((v2.setCell ⟨s+1+1,35,jc⟩ (jb S nx U)).heap[s+1]?=ja (jd C 63 (0,0))):=O ((fR _ Y).trans M);have Vl:A ((v2.setCell ⟨s+1+1,35,jc⟩ (jb S nx U)).heap[s+1+1]?=ja (jd (aG ⟨fd,u,F,[],[]⟩ (jb jc 0 0) (jb S nx U)).toArray 29 (0,0))):=O (by
  have h:=mS (i:=35) (jb S nx U) H;rw[bB,A5 ⟨fd,u,F,[],[]⟩ _ _ _ al.out]at h;exact h)
 have ck:A (bp (v2.setCell ⟨s+1+1,35,jc⟩ (jb S nx U)) (jb S nx U) (lx (aV g.tree c.chg) au c.path)):=O (o.ints (tc (i:=35) (X:=X) H Vl (λj hj=>by rw[bB];exact Qf ⟨fd,u,F,[],[]⟩ _ _ _ al.out j hj) (by rw[bB];exact(kV ⟨fd,u,F,[],[]⟩ _ _ al.out).2.1) (λk _ hk=>fR _ hk)));have S6:A (jr w w (v2.setCell ⟨s+1+1,35,jc⟩ (jb S nx U))):=O (RE.setCell (p:=⟨s+1+1,35,jc⟩) (by show w.heap.size<=s+1+1;rw[HG];omega) _);generalize v2.setCell ⟨s+1+1,35,jc⟩ (jb S nx U)=s9 at Uu UH Vl S6 ck⊢;clear W Sy M H RE o;refine L ?_;refine aL ?_;refine jV ?_
 by_cases h0:re=0
 case neg=>
  have bg:(re !=0)=jh:=ah h0;have bb:(re==0)=jp:=ah h0;have m:A (er=re):=O (by rw[Yf,cj]);have o:=O h0;clear h0
  go_upto_region 20 with fail
  refine jI ?_;refine df (v:=jf B) aj (by rw[<-Zn];exact Mu I _) ?_;refine L ?_;refine bH ?_;refine jt I λ_ r=>jE 29 _ _ I (s+1+1) B I I 29 _ Vl.out K.out (by rw[bO];exact(kV ⟨fd,u,F,[],[]⟩ _ _ al.out).2.2) a3 (r _ _ ?_)
  clear r;refine L ?_;refine bH ?_;rename_i KR Wg XR;refine Wg _ _ ?_;refine wp_ret ?_;show jZ _ _ P .ret _ _;exact j0 (fq I _ _ (s+1+1) 29 B (0,0) _ I (jJ _ _ _ _ _ _ Vl.out) jF I K) I (HP _ _ ⟨λh=>js (m.symm.trans h) o,λ_=>by rw[Zn,m];kernel_rfl,jK S6.out (by rw[HG];omega) _⟩)
 subst h0;have ek:A (er=0):=O (Yf.trans cj.symm);have W:=ae Uu bd.2.2.1;have m:cZ s9 (s+1) c q:=⟨by rw[UH,c6],T4,c5⟩;have S9:=O m;clear m
 go_upto_region 22 with fail
 go_wp2_with fail
 refine(Nt g.mem (jb pm nm c7) s9 (br.below S6).mem (aA bu)).mono ?_;rintro e t1 ⟨u1,rfl,hu,d⟩;have M:=O hu;have o:=O d;clear hu d W
 go_wp2_with fail
 refine(Hb (N4 c q (s+1) s9 S9 ((EK.At.of_sl (E:=EC) ba.chg).below S6) Wn.1) g.mem u1 t1 M o o.size (aA bu)).mono ?_;rintro e t2 ⟨u2,rfl,hu,a1⟩;have SE:=O hu;have Wj:=O (o.trans a1);obtain⟨p3,c3,cm⟩:=a8 hu;obtain⟨n3,W⟩:=J ((g.mem.filter λm=> !gH c.chg m).length);rw[<-W]at cm;subst cm;have cq:=O W;clear hu a1 o M W;have bk:s+1+1<s9.heap.size:=(jy.1 Vl).1;have M:=(Wj.block (s+1+1) bk).trans Vl;have cs:=ae M (kV ⟨fd,u,F,[],[]⟩ _ _ al.out).1;have fv:=M6 (o:=34) M;have H:=O M;clear M
 go_upto_region 23 with fail
 obtain⟨mL,bc⟩:∃f:jk->jn aK,f=λi=>(g.mem.filter λm=> !gH c.chg m)++((c.chg.take i).filter λx=> !(x.k==2)).map λx=>(⟨x.d,u,x.v⟩:aK):=⟨_,I⟩
 have Wi:=O bc;have bM:mL 0=g.mem.filter λm=> !gH c.chg m:=by rw[bc];simp
 have cn:∀i,(mL i).length<=900100:=λi=>by
  rw[bc];have h1:=qb (λm=> !gH c.chg m) g.mem;have h2:=qb (λx:ak=> !(x.k==2)) (c.chg.take i);have h3:=List.length_take_le i c.chg;have M:=WI.len;have h5:=bu.out;simp only[j1,jN];have h6:(c.chg.take i).length<=c.chg.length:=List.length_take_le' _ _;omega
 have ct:=O cn;obtain⟨M,hM⟩:=J s9.heap.size;have SS:A (s+1+1<M):=O (by rw[hM];exact bk);have bI:∀ad v,((λv=>(aG ⟨fd,u,F,[],[]⟩ v (jb S nx U)).toArray) ad).setIfInBounds 34 v=(λv=>(aG ⟨fd,u,F,[],[]⟩ v (jb S nx U)).toArray) v:=λad v=>Bw ⟨fd,u,F,[],[]⟩ ad _ v al
 have em:=O bI;have bK:=O hM;have a1:=dy.first (M:=M) (R:=s+1+1) (i:=34) (X:=(λv=>(aG ⟨fd,u,F,[],[]⟩ v (jb S nx U)).toArray)) (e:=43) (sz:=3) (w0:=s9) H.out (by rw[hM];exact SE) (by rw[hM];exact Wj) (by rw[hM];exact Wj.size) SS (bI _ (jb p3 n3 c3));rw[<-cq,<-bM]at a1;clear bc bM cn hM bI H SE Wj bk;have W:n3=(mL 0).length:=by rw[Wi,cq];simp
 generalize t2.setCell ⟨s+1+1,34,jc⟩ (jb p3 n3 c3)=W9 at a1⊢;have U5:=O a1;have WX:=O W;clear W a1;have hA:W9.heap[s]?=ja (jd aa 29 (0,0)):=(U5.but.block s (aA SS) Y).trans Uu;have hC:W9.heap[s+1]?=ja (jd C 63 (0,0)):=(U5.but.block (s+1) (aA SS) Y).trans UH;have cu:=ba.chg;rw[bf]at cu;obtain⟨ZD,p1,q1,eq,Zc,a5,H⟩:=cu;injection eq with e1 W e3
 subst e1;subst e3;have bk:=O W;rw[<-W]at Zc H;have cv:=O H;clear ZD a5 H W;have Ug:=ae hC t.2.2.2.1;have WV:A (nc<=64):=O (by rw[bk];exact WI.len);clear hA hC
 go_wp2_with fail
 go_loopw [123] (λv wr=>∃(i m:jk) (H:jW Addr) (W:jk),v=N T i/\i<=nc/\A (m=(mL i).length)/\A (dy M (s+1+1) 29 43 3 (λv=>(aG ⟨fd,u,F,[],[]⟩ v (jb S nx U)).toArray) s9 wr m (jb H m W) (EM.flat (mL i)))) (λv _=>nc-(intOf v).toNat)
 case atStart=>exact⟨0,n3,p3,c3,I,Nat.zero_le _,WX,U5⟩
 clear U5 WX Ug;obtain⟨i,m,H,W,rfl,hi,HM,HR⟩:=hrel;have ga:=WV.out
 by_cases cw:i<nc
 ·have hd:=ao ((i:jl)<(nc:jl))
  have Sm:=ao (i<nc);obtain⟨g0,o,rfl,a5,bc⟩:=cv Y;obtain⟨x,hx,Vu⟩:=ox (l:=c.chg) (j:=i) (by rw[<-bk];exact cw);have bI:g0<M:=by have:=SS.out;have:=HG.out;omega
  have bM:g0≠s+1+1:=aA HG;have TB:=(HR.but.block g0 bI bM).trans (S6.block g0 a5);have a1:=λk hk=>(bX (a:=⟨g0,o+(i*5+k),jc⟩) TB).trans (bc (i*5+k) _ ((flat_get ak.cells 5 (λ_=>rfl) c.chg i k x hx hk).trans (show x.cells[k]?=ja (x.cells.getD k (N T 0)) by have:x.cells.length=5:=I;simp[nn,ms (show k<x.cells.length by omega)])))
  have d0:wr.cell? ⟨g0,o+i*5,jc⟩=ja (N T x.k):=a1 0 G;have d1:wr.cell? ⟨g0,o+i*5+1,jc⟩=ja (N T x.d):=a1 1 G;have d2:wr.cell? ⟨g0,o+i*5+2,jc⟩=ja (N T x.p):=a1 2 G;have d3:wr.cell? ⟨g0,o+i*5+3,jc⟩=ja (N T x.v):=a1 3 G;have d4:wr.cell? ⟨g0,o+i*5+4,jc⟩=ja (N T x.c):=a1 4 G;have cn:=JF g.mem c.chg u Vu;have SP:A (mL (i+1)=mL i++(if x.k=2 then []else [⟨x.d,u,x.v⟩])):=O (by rw[Wi];exact cn);have cx:A (wr.heap[s+1]?=ja (jd C 63 (0,0))):=O ((HR.but.block (s+1) (aA SS) Y).trans UH);clear bI bM TB a1 bc hx Vu cn a5
  go_upto_region 26 with fail
  obtain⟨bx,bI⟩:=J wr.heap.size;have a5:=jL wr (jd #[N T x.k,N T x.d,N T x.p,N T x.v,N T x.c] 47);have d:=ai wr (jd #[N T x.k,N T x.d,N T x.p,N T x.v,N T x.c] 47);have Uv:A ((pz H m W).ownBlock≠ja bx):=O (cJ HR.own (.inl (jU bI.symm)));rw[<-bI]at a5⊢;obtain⟨k0,Un⟩:=J (wr.alloc (jd #[N T x.k,N T x.d,N T x.p,N T x.v,N T x.c] 47));rw[<-Un]at a5 d⊢;have bc:=O (HR.later SS d);have bM:=Z cx d;have Ye:=O a5;clear a5 d Un bI HR cx d0 d1 d2 d3 d4
  by_cases a5:x.k=2
  ·have bb:(x.k !=2)=jp:=ah a5
   have e0:k0.cell? ⟨bx,0,jc⟩=ja (N T x.k):=ae Ye I;have SU:=O a5;clear a5
   go_wp2_with fail
   refine⟨⟨i+1,m,H,W,by go_num,by omega,O ?_,O ?_⟩,?_⟩
   ·rw[SP,jA SU.out,pa];exact HM
   ·rw[SP,jA SU.out,pa];exact bc
   simp only[intOf];omega
  have bb:(x.k !=2)=jh:=ah a5;have e0:k0.cell? ⟨bx,0,jc⟩=ja (N T x.k):=ae Ye I;have SU:=O a5;clear a5;have bI:=O bc.box;have cx:A (((λv=>(aG ⟨fd,u,F,[],[]⟩ v (jb S nx U)).toArray) (jb H m W))[34]?=ja (jb H m W)):=O (kV ⟨fd,u,F,[],[]⟩ _ _ al.out).1;have bC:A (((λv=>(aG ⟨fd,u,F,[],[]⟩ v (jb S nx U)).toArray) (jb H m W)).size=36):=O (kV ⟨fd,u,F,[],[]⟩ _ _ al.out).2.2
  go_upto_region 27 with fail
  clear e0;refine jI ?_;have b0:=ae bI cx;have b1:=ae (i:=1) Ye I;have b2:=ae bM t.2.1;have b3:=ae (i:=3) Ye I;iterate 9 refine bH ?_
  clear b0 b1 b2 b3;refine jt I λ_ r=>?_
  go_simp;have d:=ai k0 (jd #[N T x.d,N T u,N T x.v] 43);have RJ:=jL k0 (jd #[N T x.d,N T u,N T x.v] 43);obtain⟨k1,hx⟩:=J (k0.alloc (jd #[N T x.d,N T u,N T x.v] 43));have SL:=eU k0 [N T x.d,N T u,N T x.v] 43 (0,0) 3 1 1 I (jw _);replace SL:cO (k0.alloc (jd #[N T x.d,N T u,N T x.v] 43)) (jb (ja ⟨k0,0,jc⟩) 1 1) 3 1 [N T x.d,N T u,N T x.v]:=SL;rw[<-hx]at SL;have Wh:=O SL;clear SL;rw[<-hx]at d RJ⊢;have a5:=O (bc.later SS d);have ev:=Z bI d;have YY:=Z Ye d;have cv:=Z bM d;clear bc bI Ye bM;have Uw:=O RJ;clear RJ hx d;refine r _ _ ?_;clear r;refine L ?_;refine jt I λ_ r=>?_
  refine Jw _ _ I M (jb H m W) m _ I a5.own _ 1 _ I Wh (by simp[kl]) (by have h1:=ct i;rw[<-HM]at h1;omega) a5.sz' λv' m2 Zz=>?_
  have RV:=Zz.own;obtain⟨pn,cn,rfl⟩:=a8 RV;have Tx:=eP ev Zz.grown (cJ a5.own (.inr SS));refine r _ _ ?_;replace Zz:=O Zz;have Tl:A (dy M (s+1+1) 29 43 3 (λv=>(aG ⟨fd,u,F,[],[]⟩ v (jb S nx U)).toArray) s9 (m2.setCell ⟨s+1+1,34,jc⟩ (jb pn (m+1) cn)) (m+1) (jb pn (m+1) cn) (EM.flat (mL (i+1)))):=O (by
   have h:=a5.push (i:=34) SS Zz (em _ _);rw[SP,jG SU.out,EK.flat_append,EK.flat_one];exact h)
  clear r RV;refine L ?_;refine bH ?_;refine jt I λ_ r=>?_
  obtain⟨⟨vo,bc⟩,f3,-,-⟩:=cE (i:=34) (jb pn (m+1) cn) Tx (by rw[bC];decide);go_simp;refine r _ _ ?_;clear r bc f3 Tx
  go_wp2_with fail
  refine⟨⟨i+1,m+1,pn,cn,by go_num,by omega,O ?_,Tl⟩,?_⟩
  ·rw[SP,jG SU.out,j1,<-HM];rfl
  simp only[intOf];omega
 have hd:=ap ((i:jl)<(nc:jl));have Sm:=ap (i<nc);have a5:mL i=iB g.mem c.chg c.epoch:=by
  rw[Wi,bn];dsimp only;unfold iB;rw[List.take_of_length_le (by rw[<-bk];omega)]
 have e0:=O a5;have b3:A (Fr w.heap.size (jb H m W)):=O ((Fr.of_own HR.own).mono (by rw[bK];exact S6.size));have RV:=HR.own;have WT:=HM.out;rw[a5]at RV WT;rw[WT]at RV;have UW:=O RV;have cn:=O WT;have cs:=ae HR.box (kV ⟨fd,u,F,[],[]⟩ (jb H m W) (jb S nx U) al).1;have T9:=O (PX (ep:=c.epoch) (Pd Zi) WI.once);have cx:A ((iB g.mem c.chg c.epoch).length<=1000000):=O (by rw[<-a5];have:=ct i;omega);clear a5 RV WT
 go_upto_region 29 with fail
 go_wp2_with fail
 refine(GY (iB g.mem c.chg c.epoch) T9 M (jb H m W) wr (by rw[cn];exact UW) HR.sz' cx).mono ?_;rintro e f1 ⟨rfl,SH,d⟩;have TK:=O SH;have Vr:=O d;have bI:A (f1.heap[s+1+1]?=ja (jd ((λv=>(aG ⟨fd,u,F,[],[]⟩ v (jb S nx U)).toArray) (jb H m W)) 29 (0,0))):=O ((d.block (s+1+1) SS).trans HR.box);have ev:A (jr w w f1):=O (S6.trans ((HR.but.below (n:=w.heap.size) (by rw[HG];omega) (eF SS HG)).trans (d.mono (eF SS HG))));have ez:A (∀k,k<s9.heap.size->k≠s+1+1->f1.heap[k]?=s9.heap[k]?):=O (λk hk hn=>(d.block k (by rw[bK];exact hk)).trans (HR.but.block k (by rw[bK];exact hk) hn));clear SH d HR cs hd Sm cw;obtain⟨d,hY⟩:=J ((λv=>(aG ⟨fd,u,F,[],[]⟩ v (jb S nx U)).toArray) (jb H m W));have bM:d.size=36:=by rw[hY];exact(kV ⟨fd,u,F,[],[]⟩ _ _ al.out).2.2
 have b0:(jm.info? 29).map (·.size)=ja d.size:=by rw[bM];kernel_rfl
 have b1:d.all (·.oneCell')=jh:=by
  rw[hY,qc];intro ad hu;simp only[aG,qd,jP,qe,qf,or_false]at hu
  rcases hu with rfl|rfl|hu|rfl|rfl
  ·rfl
  ·rfl
  ·exact g8 _ ad hu
  ·rfl
  rfl
 have a5:A (f1.heap[s+1+1]?=ja (jd d 29 (0,0))):=O (by rw[hY];exact bI);have b2:=O hY;have bc:=O b0;have cw:=O b1;clear hY bM b0 b1 bI
 go_upto_region 30 with fail
 refine jI ?_;refine df (v:=jf d) aj (gF jF I bc I I a5) (L ?_);refine jt I λ_ r=>jE 29 _ _ I (s+1+1) d I I 29 _ a5.out bc I cw (r _ _ ?_)
 clear r;refine L ?_;refine bH ?_;rename_i KR Wg XR;refine Wg _ _ ?_;refine wp_ret ?_;show jZ _ _ P .ret _ _;refine j0 (fq I _ _ (s+1+1) 29 d (0,0) _ I (jJ _ _ _ _ _ _ a5.out) jF I bc) I (HP _ _ ⟨λ_=>⟨jb H m W,jb S nx U,?_,cz _ _ _ ?_ ?_,b3,ej⟩,λh=>js ek h,jK ev.out (by rw[HG];omega) _⟩)
 ·rw[b2]
  have h1:(λv=>(aG ⟨fd,u,F,[],[]⟩ v (jb S nx U)).toArray) (jb H m W)=(aG NG (jb H m W) (jb S nx U)).toArray:=by
   show(aG ⟨fd,u,F,[],[]⟩ _ _).toArray=_;rw[bA,bn];exact jX List.toArray (cy F bo _ _)
  exact jX (λz=>Ending.returned (jC #[jf z,N T 0])) h1
 ·rw[dR a5]
  exact TK
 have h2:(f1.setRow (s+1+1) d).heap[s+1+1]?=ja (jd ((λv=>(aG ⟨fd,u,F,[],[]⟩ v (jb S nx U)).toArray) (jb H m W)) 29 (0,0)):=(jJ f1 (s+1+1) d _ _ _ a5.out).trans (jX (λz=>ja (Obj.cells z 29 (0,0))) b2);have h3:bp (f1.setRow (s+1+1) d) (jb S nx U) (lx (aV g.tree c.chg) au c.path):=ck.ints (tc (i:=34) (X:=(λv=>(aG ⟨fd,u,F,[],[]⟩ v (jb S nx U)).toArray) (jb jc 0 0)) Vl h2 (λj hj=>Le ⟨fd,u,F,[],[]⟩ _ _ _ al.out j hj) (kV ⟨fd,u,F,[],[]⟩ _ _ al.out).1 (λk hk hn=>(jO _ _ _ _ hn).trans (ez k hk hn)));rw[a4]at h3;exact h3
theorem EI(g:aI)(vm vt:jo)(c:aD)(q:CQ)(w:jj)(h:cr w g vm vt)(d:aF (·<w.heap.size) w c q)(f:eu (aJ c))(i:da w)(j:g.mem.length<=900000)(k:g.tree.length<=600000):
 jz jm 19 #[jf (aG g vm vt).toArray,jf (av c q).toArray] w (JN g c w):=by
 refine(Jv g vm vt c q w h d f i j k).mono ?_;rintro e w' ⟨l,m,n⟩;refine⟨λh=>?_,m,n⟩;obtain⟨vm,vt,a,b,-⟩:=l h;exact⟨vm,vt,a,b⟩
def kb(b:BitVec 8):af:=b::lw 31 0#8
theorem kH(b:BitVec 8):(kb b).length=32:=by simp[kb]
def kA(b:BitVec 8):ju jo:=((kb b).map v8).toArray
def vN:jo:=jb jc 0 0
def AG3:ju jo:=(aG cR vN vN).toArray
def ZG0:ju jo:=(aG fh vN vN).toArray
theorem Kw:(jm.info? 29).map (·.size)=ja AG3.size:=by kernel_rfl
theorem Kt(b:BitVec 8):(jm.info? 64).map (·.size)=ja (kA b).size:=by kernel_rfl
theorem Jz:AG3.all (·.oneCell')=jh:=by kernel_rfl
theorem KS{b:Act}(a:o.op=.build 29 #[(0,.const (N T 3))])(W:jj):
 (jM b.eval o).run jm W=.ok (.value (jf AG3)) W:=by
 simp only[jM,a]
 kernel_rfl
theorem vK(a:o.op=.build 29 #[])(W:jj):(jM b.eval o).run jm W=.ok (.value (jf ZG0)) W:=by
 simp only[jM,a]
 kernel_rfl
theorem EH(a:o.op=.build 63 #[])(W:jj):(jM b.eval o).run jm W=.ok (.value (jf ZC)) W:=by
 simp only[jM,a]
 kernel_rfl
theorem CC(a:o.op=.build 64 #[])(W:jj):(jM b.eval o).run jm W=.ok (.value (jf (kA 0#8))) W:=by
 simp only[jM,a]
 kernel_rfl
theorem vV(a:o.op=.build 64 #[(0,.const (N .u8 1))])(W:jj):(jM b.eval o).run jm W=.ok (.value (jf (kA 1#8))) W:=by
 simp only[jM,a]
 kernel_rfl
theorem Pg(a:o.op=.build 64 #[(0,.const (N .u8 2))])(W:jj):(jM b.eval o).run jm W=.ok (.value (jf (kA 2#8))) W:=by
 simp only[jM,a]
 kernel_rfl
theorem DK(a:o.op=.build 64 #[(0,.const (N .u8 3))])(W:jj):(jM b.eval o).run jm W=.ok (.value (jf (kA 3#8))) W:=by
 simp only[jM,a]
 kernel_rfl
theorem PT:∀w:jj,(Instr.alloc 29 jh (jC #[])).run jm w=.ok (jB (ja ⟨w,0,jc⟩)) (w.alloc (jd ZG0 29)):=λ_=>by kernel_rfl
theorem Ko:∀w:jj,(Instr.alloc 63 jh (jC #[])).run jm w=.ok (jB (ja ⟨w,0,jc⟩)) (w.alloc (jd ZC 63)):=λ_=>by kernel_rfl
theorem I6:∀w:jj,(Instr.alloc 64 jh (jC #[])).run jm w=.ok (jB (ja ⟨w,0,jc⟩)) (w.alloc (jd (kA 0) 64)):=λ_=>by kernel_rfl
theorem zD:(gh cR (kb 1#8) (kb 2#8)).length=32:=vx _ _
theorem pr(w:jj)(g:aI)(a:g.mem=[])(b:g.tree=[])(c:g.last.length=32):cr w g vN vN:=by
 refine⟨by rw[a];exact⟨I,jc,0,I,jw _,λ_=>rfl,λh=>js h (qg _)⟩,by rw[b];exact rP w,c⟩
theorem NE(g:aI)(p b:jW Addr)(n n' c d:jk):(aG g (jb p n c) (jb b n' d)).toArray.all (·.oneCell')=jh:=by
 rw[qc];intro e a;simp only[aG,qd,jP,qe,qf,or_false]at a
 rcases a with rfl|rfl|a|rfl|rfl
 ·rfl
 ·rfl
 ·exact B4 _ _ a
 ·rfl
 rfl
theorem LD{e:CQ}(a:aF D w d e):(av d e).toArray.all (·.oneCell')=jh:=by
 obtain⟨b,c,q,f⟩:=e;obtain⟨⟨-,g,h,rfl,-⟩,⟨-,i,j,rfl,-⟩,⟨k,⟨-,l,m,rfl,-⟩,-⟩,⟨n,⟨-,o,p,rfl,-⟩,-⟩,-⟩:=a;exact nh _ _ _ _ _ _ _ _ _ _ _ _ _
theorem tz:ay D w (jb jc 0 0) C 0 []:=⟨by simp,jc,0,I,jw _,λ_=>rfl,λh=>js h (qg _)⟩
theorem Gz:aF D w eR fX:=⟨tz,tz,⟨[],tz,I⟩,⟨[],tz,I⟩,I,I⟩
theorem GJ:ge eR:=by
 refine⟨⟨?_,?_,?_,?_,?_⟩,I,I,⟨by decide,λx a=>by cases a⟩,⟨by decide,λx a=>by cases a⟩,⟨by decide,λx a=>by cases a⟩,⟨by decide,λx a=>by cases a⟩⟩<;>exact⟨by decide,by decide⟩
structure iP(w:jj):Prop where
 t:kr w
 s:gy w
theorem iP.below{w':jj}(h:iP w)(a:jr w w w'):iP w':=⟨h.t.below a,h.s.below a⟩
abbrev ptr(g:jk):jo:=jB (ja ⟨g,0,jc⟩)
def mO(c:j6)(d:ju jo)(e:jj)(b:jD)(a:jo)(W:jj):Prop:=
 (b=jh->∃g,a=ptr g/\W.heap[g]?=ja (jd d c (0,0))/\e.heap.size<=g)/\(b=jp->a=je)
theorem mO.keep{a:j6}{d W f:jj}{b:jD}(h:mO a c d b i W)(j:jr W W f):mO a c d b i f:=
 ⟨λe=>let⟨g,k,l,m⟩:=h.1 e;⟨g,k,az l j,m⟩,h.2⟩
theorem mO.ne{g:j6}{b:jD}(h:mO g c w b i x){d:jk}(j:x.heap.size<=d):i≠ptr d:=by
 cases b with
 |true=>
  obtain⟨k,rfl,a,-⟩:=h.1 I;intro e;injection e with e
  injection e with e
  injection e with e
  have:=(jy.1 a).1;omega
 |false=>rw[h.2 I];intro e;cases e
def N9(b:jj)(e:jk)(d m n o p r:ju jo)(f h i k:jl)(c:aD)(l:ju jo)(j:jk)(s t:jD)(a:Act)(W:jj):Prop:=
 ∃T2 T3 T23 T25 T26 T27 Z3 Z4 Z2 Z1,a={tmps:=#[.bool jp,ptr e,T2,T3,je,je,je,je,je,je,je,je,je,je,je,je,je,je,je,je,je,je,jf d,T23,jf d,T25,T26,T27,jf m,jf n,jf o,Z3,Z4,Z2,Z1,je,je,je,je,je,je,je,je,je,je,je,je,je,je,je,je,je,je,je,je,je,je,je,je,je,je,je,je,je,je,je,je,je,je,je,je,je,je,je,je,je,je,je,je,je,je,je,je,je,je,je,je,je,je,je,je,je,je,je,je,je,je,je,je,je,je,je,je,je,je,je,je,je,je,je,je,je,je,je,je,je,je,je,je,je,je,je,je,je,je,je,je,je,je,je,je,je,je,je,je,je,je,je,je,je,je,je,je,je,je,je,je,je,je,je,je,je,je,je,je,je,je,je,je,je,je,je,je,je,je,je,je,je,je,je,je,je,je,je,je,je,je,je,je,je,je,je,je,je,je],defers:=[]}/\jr b b W/\W.heap[e]?=ja (jd d 29 (0,0))/\
  (1<=j->T25=jf #[N T 1,N T 4,N T f,N T h,N T 0])/\(2<=j->T26=jf #[N T 1,N T 7,N T i,N T k,N T 0])/\
  (j=3->ay (·<W.heap.size) W T27 5 2 [N T 1,N T 4,N T f,N T h,N T 0,N T 1,N T 7,N T i,N T k,N T 0])/\
  (4<=j->∃(q:CQ) (D:jk->Prop),(Z3=jC #[jf (av c q).toArray,jf l,N T 0]/\(5<=j->T23=Z3)/\(6<=j->Z4=jf (av c q).toArray)/\(7<=j->Z2=jf l)/\(8<=j->Z1=N T 0))/\aF D W c q/\∀g,D g->b.heap.size<=g/\g<W.heap.size/\T2≠ptr g/\T3≠ptr g)/\
  mO 63 p b s T2 W/\mO 64 r b t T3 W
theorem MI(w:jj)(hT:iP w):jz jm 4 #[] w λe w'=>e=jv (.bool jh)/\jr w w w':=by
 have HT:=O hT;have z:=jL w (jd ZG0 29);have U:=ai w (jd ZG0 29);obtain⟨R,f⟩:=J AG3;obtain⟨s,d⟩:=J ZG0;have bI:=O f;have bo:=O d;have bl:A ((jm.info? 29).map (·.size)=ja R.size):=O (by rw[f];exact Kw);have cv:A (R.all (·.oneCell')=jh):=O (by rw[f];exact Jz);have bK:A (s.size=R.size):=O (by rw[f,d];rfl);have bq:A (∀w:jj,(Instr.alloc 29 jh (jC #[])).run jm w=.ok (jB (ja ⟨w,0,jc⟩)) (w.alloc (jd s 29))):=O (by rw[d];exact PT);rw[<-d]at z U;obtain⟨RA,M⟩:=J w.heap.size;rw[<-M]at z;obtain⟨K1,B⟩:=J (kA 1#8);obtain⟨K2,K⟩:=J (kA 2#8);obtain⟨K3,D⟩:=J (kA 3#8);obtain⟨P,i⟩:=J (kA 0#8);obtain⟨u,j⟩:=J ZC;have Ul:=O B;have SU:=O K;have T5:=O D;have br:=O i;have bh:=O j;obtain⟨F,S⟩:∃y:jl,y=((aR 4 (1000+4):jk):jl):=⟨_,I⟩;obtain⟨H,V⟩:∃y:jl,y=((aR 4 (100+4):jk):jl):=⟨_,I⟩;obtain⟨p7,X⟩:∃y:jl,y=((aR 4 (1000+7):jk):jl):=⟨_,I⟩;obtain⟨q7,aa⟩:∃y:jl,y=((aR 4 (100+7):jk):jl):=⟨_,I⟩;have E:(du 4).cells=[N T 1,N T 4,N T F,N T H,N T 0]:=by rw[S,V];rfl
 have bd:(du 7).cells=[N T 1,N T 7,N T p7,N T q7,N T 0]:=by rw[X,aa];rfl
 have cw:A (dB.flatMap ak.cells=[N T 1,N T 4,N T F,N T H,N T 0,N T 1,N T 7,N T p7,N T q7,N T 0]):=O (by unfold dB;rw[nz,nz,p6,E,bd];rfl);have UK:A (∀W:jj,jz jm 18 #[N T 4] W λe w'=>e=jv (jf #[N T 1,N T 4,N T F,N T H,N T 0])/\jr W W w'):=O (λW=>by
  have h:=zS 4 G W;rw[E]at h;exact h)
 have YE:A (∀W:jj,jz jm 18 #[N T 7] W λe w'=>e=jv (jf #[N T 1,N T 7,N T p7,N T q7,N T 0])/\jr W W w'):=O (λW=>by
  have h:=zS 7 G W;rw[bd]at h;exact h)
 obtain⟨Q,m⟩:=J (((gh cR (kb 1#8) (kb 2#8)).map v8).toArray);obtain⟨c,r⟩:=J c47;have bM:=O m;have bN:A ((jm.info? 64).map (·.size)=ja Q.size):=O (by rw[m,j3,jN,zD];kernel_rfl);have cx:A (P.size=Q.size):=O (by
  have a:((gh cR (kb 1#8) (kb 2#8)).map v8).toArray.size=32:=by rw[j3,jN,zD]
  rw[m,i,a]
  rfl)
 have cy:A (Q.all (·.oneCell')=jh):=O (by rw[m];exact ee _);have HC:=O r;have cz:A (∀(W:jj) (q:CQ),iP W->aF (·<W.heap.size) W c q->jz jm 19 #[jf R,jf (av c q).toArray] W λe w'=>
  (∃vm vt,e=jv (jC #[jf (aG (dV cR c) vm vt).toArray,N T 0])/\cr w' (dV cR c) vm vt)/\jr W W w'):=O (λW q ht x=>by
   rw[f];rw[r]at x⊢;refine(EI cR vN vN c47 q W (pr W cR I I I) x mG.encOk ht.s.dig G G).mono ?_;rintro e w' ⟨h1,-,b⟩;exact⟨h1 Mr,b⟩)
 have n:∀(W:jj) (v:jo),ay (·<W.heap.size) W v 5 1 [N T 1,N T 4,N T F,N T H,N T 0]->ay (·<W.heap.size) W v 5 [du 4].length ([du 4].flatMap ak.cells):=λW v h=>by
  rw[nz,p6,E];exact h
 have cA:A (∀(W:jj) (a:jo),iP W->ay (·<W.heap.size) W a 5 1 [N T 1,N T 4,N T F,N T H,N T 0]->
  jz jm 17 #[jf s,N T 3,N T 103,a,jf K1,jf P,jf K3] W λe w'=>e=jv (jC #[jf u,jf P,N T 221])/\jr W W w'):=O (λW a ht l=>by
   rw[d,B,D,i,j];refine(Fp fh vN vN a 3 103 [du 4] (kb 1#8) (kb 0#8) (kb 3#8) W (pr W fh I I G) (n W a l) (kH _) (kH _) (kH _) ht.t ht.s G G G).mono ?_;rintro e w' ⟨-,h2,b⟩;have g:=h2 (by rw[ET];decide);rw[ET]at g;exact⟨g,b⟩)
 have T9:A (∀(W:jj),jz jm 10 #[jf s,N T 0,jb jc 0 0] W λe w'=>(∃a2,e=jv (jC #[a2,N T 221]))/\jr W W w'):=O (λW=>by
  rw[d];refine(rQ fh vN vN (jb jc 0 0) 0 [] W (pr W fh I I G) ⟨I,jc,0,I,jw _,λ_=>rfl,λh=>js h (qg _)⟩ G G G).mono ?_;rintro e w' ⟨a2,h1,-,b⟩;rw[Ka]at h1;exact⟨⟨a2,h1⟩,b⟩)
 have cL:A (∀(W:jj) (a:jo),ay (·<W.heap.size) W a 5 1 [N T 1,N T 4,N T F,N T H,N T 0]->jz jm 10 #[jf R,N T 4,a] W λe w'=>(∃p k,e=jv (jC #[jb p 0 k,N T 0]))/\jr W W w'):=O (λW a l=>by
  rw[f];refine(rQ cR vN vN a 4 [du 4] W (pr W cR I I I) (n W a l).row G G G).mono ?_;rintro e w' ⟨a2,h1,h2,b⟩;rw[Cy]at h1;rw[Ha]at h2;obtain⟨p,k,rfl⟩:=a8 h2;exact⟨⟨p,k,h1⟩,b⟩)
 have cX:A (∀(W:jj),iP W->jz jm 22 #[jf K1] W λe w'=>∃v,e=jv v/\w'.ownsRow W 64 32 v 10 (fV (fH (kb 1#8) 10))/\jr W W w'):=O (λW ht=>by
  rw[B];exact Bu (kb 1#8) (kH _) W ht.s.dig)
 clear n;have Yz:A (∀(W:jj),iP W->jz jm 19 #[jf s,jf u] W λe w'=>e=jv (jC #[jf s,N T 220])/\jr W W w'):=O (λW ht=>by
  rw[d,j];refine(EI fh vN vN eR fX W (pr W fh I I G) Gz GJ.encOk ht.s.dig G G).mono ?_;rintro e w' ⟨-,h2,b⟩;have g:=h2 (by rw[ED];decide);rw[ED]at g;exact⟨g,b⟩)
 obtain⟨t,C⟩:=J (enc (vL (aJ c47)));have e6:=O C;have c5:A (∀(W:jj) (q:CQ),aF (·<W.heap.size) W c q->jz jm 20 #[jf (av c q).toArray] W λe w'=>(∃v,e=jv (jC #[v,N T 0])/\w'.ownsRow W 5 1 v t.length (t.map v8))/\jr W W w'):=O (λW q x=>by
  rw[r]at x⊢;rw[C];refine(Gw c47 q W x mG.encOk).mono ?_;rintro e w' ⟨h1,-,b⟩;exact⟨h1 oE.chk,b⟩)
 have c6:A (∀(W:jj) (p:jW Addr) (n k:jk),ay (·<W.heap.size) W (jb p n k) 1 t.length (t.map v8)->jz jm 21 #[jb p n k] W λe w'=>(∃q,e=jv (jC #[jf (av c q).toArray,N T 0])/\aF (λg=>W.heap.size<=g/\g<w'.heap.size) w' c q)/\jr W W w'):=O (λW p n k l=>by
  refine(Rh t p n k W l (by rw[C];exact mG.encOk.len)).mono ?_;rw[C,Pq,<-r];rintro e w' ⟨h1,h2⟩;exact⟨h2,h1⟩)
 clear C;have bu:A (∀(W:jj) (a:jo),iP W->ay (·<W.heap.size) W a 5 2 [N T 1,N T 4,N T F,N T H,N T 0,N T 1,N T 7,N T p7,N T q7,N T 0]->
  jz jm 17 #[jf R,N T 4,N T 104,a,jf K1,jf K2,jf K3] W λe w'=>(∃q,e=jv (jC #[jf (av c q).toArray,jf Q,N T 0])/\aF (λk=>W.heap.size<=k/\k<w'.heap.size) w' c q)/\jr W W w'):=O (λW a ht l=>by
   rw[f,B,K,D,m,r];refine(Fp cR vN vN a 4 104 dB (kb 1#8) (kb 2#8) (kb 3#8) W (pr W cR I I I) (by rw[cw];exact l) (kH _) (kH _) (kH _) ht.t ht.s G G G).mono ?_;rintro e w' ⟨h1,-,b⟩;exact⟨h1 LU,b⟩)
 have c7:A ((jm.info? 29).map (·.size)=ja s.size):=O (by rw[d];kernel_rfl);have c8:A (s.all (·.oneCell')=jh):=O (by rw[d];kernel_rfl);have c9:A ((jm.info? 63).map (·.size)=ja u.size):=O (by rw[j];exact ng);have db:A (u.all (·.oneCell')=jh):=O (by rw[j];exact sd);have dd:A ((jm.info? 64).map (·.size)=ja P.size):=O (by rw[i];exact Kt _);have dn:A (P.all (·.oneCell')=jh):=O (by rw[i];exact ee _);have bs:A (∀w:jj,(Instr.alloc 63 jh (jC #[])).run jm w=.ok (jB (ja ⟨w,0,jc⟩)) (w.alloc (jd u 63))):=O (by rw[j];exact Ko);have bO:A (∀w:jj,(Instr.alloc 64 jh (jC #[])).run jm w=.ok (jB (ja ⟨w,0,jc⟩)) (w.alloc (jd P 64))):=O (by rw[i];exact I6);clear B K D i j S V X aa E bd m r;have S4:=O z;have HG:=O M;have TW:A (((w.alloc (jd s 29)).setRow RA R).heap[RA]?=ja (jd R 29 (0,0))):=O (jJ _ _ _ _ _ _ z);have X:A (jr w w ((w.alloc (jd s 29)).setRow RA R)):=O (jK U (jU M.symm) R);clear hT z U f d M
 go_enter func4,ntmps4
 go_upto_region 1 with fail
 refine jI ?_;refine df (v:=jf R) aj (by rw[bI];exact KS I _) ?_;refine L ?_;refine jt I λ_ l=>gL 29 I s bq (l _ _ ?_)
 clear l;refine L ?_;rw[<-HG];refine jt I λ_ l=>jE 29 _ _ I RA R I I 29 s S4 bl bK cv (l _ _ ?_)
 clear l S4;refine L ?_;generalize(w.alloc (jd s 29)).setRow RA R=x1 at TW X⊢
 go_upto_region 2 with fail
 have aa:x1.drew.heap[RA]?=ja (jd R 29 (0,0)):=TW.out;refine jY ?_;refine IQ (λm=>m.heap[RA]?=ja (jd R 29 (0,0))) [0,4,5,6] [(1,jp),(2,jp),(3,jp),(7,jp),(8,jh),(9,jh),(10,jh),(11,jh)] 12 13 (.o 14 (.o 15 (.t 16 .done))) (N9 x1.drew RA R K1 K2 K3 u P F H p7 q7 c Q) ag ag ag ag ag G (λ_ _ _ _ h=>h) aa ?hI ?hT ?hC ?h1 ?h2 ?hE ?h0
 case hI=>
  rintro j K b2 a W ⟨T2,T3,T23,T25,T26,T27,Z3,Z4,Z2,Z1,rfl,B,f,-⟩;exact f
 case h1=>
  rintro j b2 a W ⟨T2,T3,T23,T25,T26,T27,Z3,Z4,Z2,Z1,rfl,B,f,ad,al,C,au,V,UJ⟩;refine lm (o:=_) I (λK' l=>?_);rw[jA aj];refine gL 63 I u bs ?_;have d:=ai W (jd u 63);refine l _ _ ⟨ptr W.heap.size,T3,T23,T25,T26,T27,Z3,Z4,Z2,Z1,I,B.trans (d.mono B.size),az f d,ad,al,?_,?_,⟨λ_=>⟨_,I,jL _ _,B.size⟩,λh=>(by cases h)⟩,UJ.keep d⟩
  ·exact λe=>((C e).keep λg f=>d.block g f).mono λg f=>jq f d.size
  intro e;obtain⟨q,D,z,x,E⟩:=au e;exact⟨q,D,z,x.keep λg f=>d.block g (E g f).2.1,λg f=>⟨(E g f).1,jq (E g f).2.1 d.size,(λe=>by injection e with e;injection e with e;injection e with e;have:=(E g f).2.1;omega),(E g f).2.2.2⟩⟩
 case h2=>
  rintro j K a W ⟨T2,T3,T23,T25,T26,T27,Z3,Z4,Z2,Z1,rfl,B,f,ad,al,C,au,V,UJ⟩;refine lm (o:=_) I (λK' l=>?_);rw[jA aj];refine gL 64 I P bO ?_;have d:=ai W (jd P 64);refine l _ _ ⟨T2,ptr W.heap.size,T23,T25,T26,T27,Z3,Z4,Z2,Z1,I,B.trans (d.mono B.size),az f d,ad,al,?_,?_,V.keep d,⟨λ_=>⟨_,I,jL _ _,B.size⟩,λh=>(by cases h)⟩⟩
  ·exact λe=>((C e).keep λg f=>d.block g f).mono λg f=>jq f d.size
  intro e;obtain⟨q,D,z,x,E⟩:=au e;exact⟨q,D,z,x.keep λg f=>d.block g (E g f).2.1,λg f=>⟨(E g f).1,jq (E g f).2.1 d.size,(E g f).2.2.1,(λe=>by injection e with e;injection e with e;injection e with e;have:=(E g f).2.1;omega)⟩⟩
 case h0=>
  (refine tY (v:=jf R) I aj (λm r=>cI jF I bl I I r) (L ?_))
  (refine tY (v:=jf K1) I aj (λm r=>by rw[Ul];exact vV I _) ?_;refine L ?_)
  (refine tY (v:=jf K2) I aj (λm r=>by rw[SU];exact Pg I _) ?_;refine L ?_)
  (refine tY (v:=jf K3) I aj (λm r=>by rw[T5];exact DK I _) ?_;refine L ?_)
  exact⟨je,je,je,je,je,je,je,je,je,je,I,Below.refl _ _,aa,λh=>js h G,λh=>js h G,λh=>js h G,λh=>js h G,⟨λh=>(by cases h),λ_=>rfl⟩,⟨λh=>(by cases h),λ_=>rfl⟩⟩
 case hT=>
  rintro j i b K b2 a W ⟨T2,T3,T23,T25,T26,T27,Z3,Z4,Z2,Z1,rfl,B,f,ad,al,C,au,V,UJ⟩
  rcases j with _ |_ |_ |_ |_ |_ |_ |_ |j
  iterate 4 (·simp at b)
  ·obtain rfl:i=8:=ah b.symm
   obtain⟨q,D,z,x,E⟩:=au Y;refine⟨_,Z3,I,.inl ⟨by rfl,λm r=>.inl (by go_simp;try with_reducible rfl)⟩,?_⟩;exact⟨T2,T3,Z3,T25,T26,T27,Z3,Z4,Z2,Z1,I,B,f,λ_=>ad Y,λ_=>al Y,λe=>js e Y,λ_=>⟨q,D,⟨z.1,λ_=>rfl,(λh=>js h Y),(λh=>js h Y),(λh=>js h Y)⟩,x,E⟩,V,UJ⟩
  ·obtain rfl:i=9:=ah b.symm
   obtain⟨q,D,z,x,E⟩:=au Y;obtain⟨rfl,a5,WB,bk,bm⟩:=z;obtain rfl:=a5 Y;refine⟨_,jf (av c q).toArray,I,.inl ⟨by rfl,λm r=>.inl (by go_simp;try with_reducible rfl)⟩,?_⟩;exact⟨T2,T3,_,T25,T26,T27,_,_,Z2,Z1,I,B,f,λ_=>ad Y,λ_=>al Y,λe=>js e Y,λ_=>⟨q,D,⟨I,λ_=>rfl,λ_=>rfl,(λh=>js h Y),(λh=>js h Y)⟩,x,E⟩,V,UJ⟩
  ·obtain rfl:i=10:=ah b.symm
   obtain⟨q,D,z,x,E⟩:=au Y;obtain⟨rfl,a5,WB,bk,bm⟩:=z;obtain rfl:=a5 Y;refine⟨_,jf Q,I,.inl ⟨by rfl,λm r=>.inl (by go_simp;try with_reducible rfl)⟩,?_⟩;exact⟨T2,T3,_,T25,T26,T27,_,Z4,_,Z1,I,B,f,λ_=>ad Y,λ_=>al Y,λe=>js e Y,λ_=>⟨q,D,⟨I,λ_=>rfl,λ_=>WB Y,λ_=>rfl,(λh=>js h Y)⟩,x,E⟩,V,UJ⟩
  ·obtain rfl:i=11:=ah b.symm
   obtain⟨q,D,z,x,E⟩:=au Y;obtain⟨rfl,a5,WB,bk,bm⟩:=z;obtain rfl:=a5 Y;refine⟨_,N T 0,I,.inl ⟨by rfl,λm r=>.inl (by go_simp;try with_reducible rfl)⟩,?_⟩;exact⟨T2,T3,_,T25,T26,T27,_,Z4,Z2,_,I,B,f,λ_=>ad Y,λ_=>al Y,λe=>js e Y,λ_=>⟨q,D,⟨I,λ_=>rfl,λ_=>WB Y,λ_=>bk Y,λ_=>rfl⟩,x,E⟩,V,UJ⟩
  simp at b
 case hC=>
  rintro j i b K b2 a W ⟨T2,T3,T23,T25,T26,T27,Z3,Z4,Z2,Z1,rfl,B,f,ad,al,C,au,V,UJ⟩;have a3:jr w w x1.drew:=X.trans ((bz x1).mono X.size)
  rcases j with _ |_ |_ |_ |_ |_ |_ |_ |j
  ·obtain rfl:i=1:=ah b.symm
   refine lm (o:=_) I (λK' l=>?_);go_simp;refine(UK W).mono ?_;rintro e m ⟨rfl,d⟩;exact l _ _ ⟨T2,T3,T23,_,T26,T27,Z3,Z4,Z2,Z1,I,B.trans (d.mono B.size),az f d,λ_=>rfl,(λh=>js h Y),λe=>js e Y,λe=>js e Y,V.keep d,UJ.keep d⟩
  ·obtain rfl:i=2:=ah b.symm
   refine lm (o:=_) I (λK' l=>?_);go_simp;refine(YE W).mono ?_;rintro e m ⟨rfl,d⟩;exact l _ _ ⟨T2,T3,T23,_,_,T27,Z3,Z4,Z2,Z1,I,B.trans (d.mono B.size),az f d,λ_=>rfl,λ_=>rfl,λe=>js e Y,λe=>js e Y,V.keep d,UJ.keep d⟩
  ·obtain rfl:i=3:=ah b.symm
   obtain rfl:=ad Y;obtain rfl:=al Y;have d:=ai W (jd #[N T 1,N T 4,N T F,N T H,N T 0,N T 1,N T 7,N T p7,N T q7,N T 0] 47);have RV:=kz W [N T 1,N T 4,N T F,N T H,N T 0,N T 1,N T 7,N T p7,N T q7,N T 0] 47 5 2 W.heap.size (jw _) I G;have S:=ay.of_own (D:=(·<(W.alloc (jd #[N T 1,N T 4,N T F,N T H,N T 0,N T 1,N T 7,N T p7,N T q7,N T 0] 47)).heap.size)) RV (λg f=>(RV.lt g f).2);refine lm (o:=_) I (λK' l=>?_);go_simp;exact l _ _ ⟨T2,T3,T23,_,_,_,Z3,Z4,Z2,Z1,I,B.trans (d.mono B.size),az f d,λ_=>rfl,λ_=>rfl,λ_=>S,λe=>js e Y,V.keep d,UJ.keep d⟩
  ·obtain rfl:i=7:=ah b.symm
   obtain⟨pl,nl,z⟩:=(C Y).form;have a1:=C Y;subst z;refine lm (o:=_) I (λK' l=>?_);go_simp;refine(bu W _ (HT.below (a3.trans (B.mono a3.size))) a1).mono ?_;rintro e m ⟨⟨q,rfl,x⟩,d⟩;exact l _ _ ⟨T2,T3,T23,_,_,_,_,Z4,Z2,Z1,I,B.trans (d.mono B.size),az f d,λ_=>rfl,λ_=>rfl,λe=>js e Y,λ_=>⟨q,_,⟨I,(λh=>js h Y),(λh=>js h Y),(λh=>js h Y),(λh=>js h Y)⟩,x,λg f=>⟨jS B.size f.1,f.2,V.ne f.1,UJ.ne f.1⟩⟩,V.keep d,UJ.keep d⟩
  iterate 5 (·simp at b)
 rintro a W ⟨T2,T3,T23,T25,T26,T27,Z3,Z4,Z2,Z1,rfl,B,f,ad,al,-,au,V,UJ⟩;obtain⟨q,D,⟨rfl,a5,WB,bk,bm⟩,x,E⟩:=au G;obtain rfl:=a5 G;obtain rfl:=WB G;obtain rfl:=bk G;obtain rfl:=bm G;obtain rfl:=ad G;obtain rfl:=al G;obtain⟨C,rfl,hC,bv⟩:=V.1 I;obtain⟨K,rfl,l,bw⟩:=UJ.1 I;have a1:C≠K:=by
  rintro rfl;rw[hC]at l;simp at l
 obtain⟨i,b⟩:=J ((av c q).toArray);have a4:i.size=73:=by rw[b];exact gK c q x.plen x.clen
 have bb:i.all (·.oneCell')=jh:=by
  rw[b];obtain⟨z,vp,vb,vw⟩:=q;obtain⟨⟨-,p1,n1,rfl,-⟩,⟨-,p2,n2,rfl,-⟩,⟨us,⟨-,p3,n3,rfl,-⟩,-⟩,⟨vs,⟨-,F,n4,rfl,-⟩,-⟩,-⟩:=x;exact nh _ _ _ _ _ _ _ _ _ _ _ _ _
 have bc:(jm.info? 63).map (·.size)=ja i.size:=by rw[a4];exact fN
 have a3:jr w w x1.drew:=X.trans ((bz x1).mono X.size);have M:RA<x1.drew.heap.size:=(jy.1 aa).1;rw[<-b];have R0:=O (jJ W C _ i _ _ hC);have bf:=(jO W C K i (Ne.symm a1)).trans l;have bg:=(jO W C RA i Y).trans f;have d:=jK (a3.trans (B.mono a3.size)) (jS a3.size bv) i;have R3:=O ((jO (W.setRow C i) K C Q a1).trans R0);have SU:=O (jJ (W.setRow C i) K _ Q _ _ bf);have z:=O ((jO (W.setRow C i) K RA Q Y).trans bg);have RE:=O (jK d (jS a3.size bw) Q);have bA:((W.setRow C i).setRow K Q).heap.size=W.heap.size:=by simp[m0]
 have ba:A (aF (λg=>w.heap.size<=g/\g<((W.setRow C i).setRow K Q).heap.size) ((W.setRow C i).setRow K Q) c q):=O ((x.keep λg f=>(jO _ K g Q (λe=>(E g f).2.2.2 (by rw[e]))).trans (jO W C g i (λe=>(E g f).2.2.1 (by rw[e])))).mono λg f=>⟨jS a3.size (E g f).1,by rw[bA];exact(E g f).2.1⟩);refine ar I (λK' VE=>?_);rw[jA aj];refine jE 63 _ _ I C i I I 63 u hC bc (by rw[bh,a4];exact o6) bb ?_;refine VE _ _ bg λ_=>?_
 clear VE;refine L ?_;refine ar I (λK' VE=>?_);rw[jA aj];refine jE 64 _ _ I K Q I I 64 P bf bN cx cy ?_;refine VE _ _ z.out λ_=>?_
 clear VE;refine L ?_;have bn:=O bc;have R6:=O bb;have UG:=O a4;have ZF:=O b;have e7:A (RA<C/\RA<K/\C≠K):=O ⟨by omega,by omega,a1⟩;generalize(W.setRow C i).setRow K Q=x2 at R3 SU z RE ba⊢;clear hC l bv bw B f ad al au V UJ x E a1 b a4 bb bc a3 aa M bf bg d bA R0 X TW bu YE;refine bi ?_;refine jV ?_
 go_upto_region 3 with fail
 refine jI ?_;refine df (v:=jf R) aj (cI jF I bl I I z) (L ?_);refine df (v:=jf i) aj (cI jT I bn I I R3) (L ?_);have b:=cz x2 q (HT.below RE) (ba.mono λg f=>f.2);rw[<-ZF]at b;refine jt I λ_ l=>?_
 go_simp;refine(b).mono ?_;rintro e x3 ⟨⟨vm,vt,rfl,M⟩,d⟩;have Sl:=Z R3 d;have T5:=Z SU d;have Ve:=Z z d;have RI:=ac RE d;have aa:A (aF (λg=>w.heap.size<=g/\g<x3.heap.size) x3 c q):=O ((ba.keep λg f=>d.block g f.2).mono λg f=>⟨f.1,jq f.2 d.size⟩);clear d R3 SU z RE ba;have ZL:=O M;clear b M;refine l _ _ ?_;clear l;refine L ?_;obtain⟨pm,nm,cm,rfl⟩:∃p n k,vm=jb p n k:=by
  obtain⟨-,p,k,e,-⟩:=ZL.mem;exact⟨p,_,k,e⟩
 obtain⟨pt,nt,ct,rfl⟩:=iW ZL.tree;obtain⟨AX,b⟩:=J ((aG (dV cR c) (jb pm nm cm) (jb pt nt ct)).toArray);rw[<-b];have dr:A ((jm.info? 29).map (·.size)=ja AX.size):=O (by rw[b];exact lC ZL.llen);have ds:A (AX.all (·.oneCell')=jh):=O (by rw[b];exact NE _ _ _ _ _ _ _);have dv:A (s.size=AX.size):=O (by rw[b,(kV _ _ _ ZL.llen).2.2,bK,bI];rfl);have bT:=O b;clear b;iterate 3 refine bH ?_
 have b:=jL x3 (jd s 29);obtain⟨X,f⟩:=J x3.heap.size;rw[<-f]at b;have d:=jK (ai x3 (jd s 29)) (jU f.symm) AX;have z:=jJ (x3.alloc (jd s 29)) X _ AX _ _ b;refine jt I λ_ l=>gL 29 I s bq (l _ _ ?_)
 clear l;rw[<-f];refine L ?_;refine jt I λ_ l=>jE 29 _ _ I X AX I I 29 s b dr dv ds (l _ _ ?_)
 clear l b f;refine L ?_;obtain⟨x4,M⟩:=J ((x3.alloc (jd s 29)).setRow X AX);rw[<-M]at d z⊢;clear M;have Ty:=Z Sl d;have a1:=Z T5 d;have YO:=Z Ve d;have RO:=ac RI d;have a4:A (aF (λg=>w.heap.size<=g/\g<x4.heap.size) x4 c q):=O ((aa.keep λg f=>d.block g f.2).mono λg f=>⟨f.1,jq f.2 d.size⟩);have ba:=O (ZL.below d);clear d Sl T5 Ve RI aa ZL;have ZV:=O z;clear z;refine bH ?_
 go_upto_region 4 with fail
 refine jI ?_;refine df (v:=jf s) aj (by rw[bo];exact vK I _) ?_;refine L ?_;refine jt I λ_ l=>?_
 go_simp;refine(UK x4).mono ?_;rintro e x5 ⟨rfl,d⟩;have ZT:=Z Ty d;have aa:=Z a1 d;have Sd:=Z YO d;have RX:=ac RO d;have bb:A (aF (λg=>w.heap.size<=g/\g<x5.heap.size) x5 c q):=O ((a4.keep λg f=>d.block g f.2).mono λg f=>⟨f.1,jq f.2 d.size⟩);have bc:=O (ba.below d);have YX:=Z ZV d;clear d Ty a1 YO RO a4 ba ZV;refine l _ _ ?_;clear l;refine L ?_;have d:=ai x5 (jd #[N T 1,N T 4,N T F,N T H,N T 0] 47);have RV:=kz x5 [N T 1,N T 4,N T F,N T H,N T 0] 47 5 1 x5.heap.size (jw _) I G;have S:ay (·<(x5.alloc (jd #[N T 1,N T 4,N T F,N T H,N T 0] 47)).heap.size) (x5.alloc (jd #[N T 1,N T 4,N T F,N T H,N T 0] 47)) (jb (ja ⟨x5,0,jc⟩) 1 1) 5 1 [N T 1,N T 4,N T F,N T H,N T 0]:=ay.of_own RV (λg f=>(RV.lt g f).2);refine jt I λ_ l=>?_
 go_simp;refine l _ _ ?_;clear l RV;refine L ?_;obtain⟨x6,M⟩:=J (x5.alloc (jd #[N T 1,N T 4,N T F,N T H,N T 0] 47));obtain⟨e8,f⟩:=J x5.heap.size;rw[<-M]at d S⊢;rw[<-f]at S⊢;clear M f;have a1:=Z ZT d;have a4:=Z aa d;have Um:=Z Sd d;have SI:=ac RX d;have ba:A (aF (λg=>w.heap.size<=g/\g<x6.heap.size) x6 c q):=O ((bb.keep λg f=>d.block g f.2).mono λg f=>⟨f.1,jq f.2 d.size⟩);have bf:=O (bc.below d);have ZW:=Z YX d;clear d ZT aa Sd RX bb bc YX;have ea:=O S;clear S;refine df (v:=jf K1) aj (by rw[Ul];exact vV I _) ?_;refine L ?_;refine df (v:=jf P) aj (by rw[br];exact CC I _) ?_;refine L ?_;refine df (v:=jf K3) aj (by rw[T5];exact DK I _) ?_;refine L ?_;refine jt I λ_ l=>?_
 go_simp;refine(cA x6 _ (HT.below SI) ea).mono ?_;rintro e x7 ⟨rfl,d⟩;have bb:=Z a1 d;have bc:=Z a4 d;have Zy:=Z Um d;have TH:=ac SI d;have bg:A (aF (λg=>w.heap.size<=g/\g<x7.heap.size) x7 c q):=O ((ba.keep λg f=>d.block g f.2).mono λg f=>⟨f.1,jq f.2 d.size⟩);have bu:=O (bf.below d);have bv:=Z ZW d;clear d a1 a4 Um SI ba bf ZW;refine l _ _ ?_;clear l;refine L ?_;iterate 4 refine bH ?_
 have aa:=jL x7 (jd u 63);have U:=ai x7 (jd u 63);have a1:=jL (x7.alloc (jd u 63)) (jd P 64);have a4:=ai (x7.alloc (jd u 63)) (jd P 64);replace aa:=az aa a4;rw[j4]at a1;obtain⟨N1,f⟩:=J x7.heap.size;rw[<-f]at aa a1;have ba:=(jO ((x7.alloc (jd u 63)).alloc (jd P 64)) N1 (N1+1) u Y).trans a1;have d:=jK (jK (U.trans (a4.mono U.size)) (jU f.symm) u) (show x7.heap.size<=N1+1 by omega) P;refine jt I λ_ l=>gL 63 I u bs (l _ _ ?_)
 clear l;refine L ?_;refine jt I λ_ l=>gL 64 I P bO (l _ _ ?_)
 clear l;rw[j4,<-f];refine L ?_;refine jt I λ_ l=>jE 63 _ _ I N1 u I I 63 u aa c9 I db (l _ _ ?_)
 clear l;refine L ?_;refine jt I λ_ l=>jE 64 _ _ I (N1+1) P I I 64 P ba dd I dn (l _ _ ?_)
 clear l aa a1 ba U a4 f;refine L ?_;generalize(((x7.alloc (jd u 63)).alloc (jd P 64)).setRow N1 u).setRow (N1+1) P=x8 at d⊢;have aa:=Z bb d;have a1:=Z bc d;have a4:=Z Zy d;have SX:=ac TH d;have ba:A (aF (λg=>w.heap.size<=g/\g<x8.heap.size) x8 c q):=O ((bg.keep λg f=>d.block g f.2).mono λg f=>⟨f.1,jq f.2 d.size⟩);have bf:=O (bu.below d);have bw:=Z bv d;clear d bb bc Zy TH bg bu bv;refine bH ?_
 go_upto_region 5 with fail
 refine jI ?_;refine df (v:=jf s) aj (by rw[bo];exact vK I _) ?_;refine L ?_;refine jt I λ_ l=>?_
 go_simp;refine(T9 x8).mono ?_;rintro e x9 ⟨⟨un,rfl⟩,d⟩;have UH:=Z aa d;have bb:=Z a1 d;have bc:=Z a4 d;have U:=ac SX d;have bg:A (aF (λg=>w.heap.size<=g/\g<x9.heap.size) x9 c q):=O ((ba.keep λg f=>d.block g f.2).mono λg f=>⟨f.1,jq f.2 d.size⟩);have bu:=O (bf.below d);have bv:=Z bw d;clear d aa a1 a4 SX ba bf bw;refine l _ _ ?_;clear l;refine L ?_;iterate 5 refine bH ?_
 go_upto_region 6 with fail
 refine jI ?_;refine df (v:=jf s) aj (by rw[bo];exact vK I _) ?_;refine L ?_;refine df (v:=jf u) aj (by rw[bh];exact EH I _) ?_;refine L ?_;refine jt I λ_ l=>?_
 go_simp;refine(Yz x9 (HT.below U)).mono ?_;rintro e ba ⟨rfl,d⟩;have a1:=Z UH d;have a4:=Z bb d;have bf:=Z bc d;have bw:=ac U d;have bA:A (aF (λg=>w.heap.size<=g/\g<ba.heap.size) ba c q):=O ((bg.keep λg f=>d.block g f.2).mono λg f=>⟨f.1,jq f.2 d.size⟩);have bB:=O (bu.below d);have bC:=Z bv d;clear d UH bb bc U bg bu bv;refine l _ _ ?_;clear l;refine L ?_;iterate 3 refine bH ?_
 have b:=jL ba (jd s 29);obtain⟨X6,f⟩:=J ba.heap.size;rw[<-f]at b;have d:=jK (ai ba (jd s 29)) (jU f.symm) s;have z:=jJ (ba.alloc (jd s 29)) X6 _ s _ _ b;refine jt I λ_ l=>gL 29 I s bq (l _ _ ?_)
 clear l;rw[<-f];refine L ?_;refine jt I λ_ l=>jE 29 _ _ I X6 s I I 29 s b c7 I c8 (l _ _ ?_)
 clear l b f;refine L ?_;obtain⟨U2,M⟩:=J ((ba.alloc (jd s 29)).setRow X6 s);rw[<-M]at d z⊢;clear M;have U:=Z a1 d;have bb:=Z a4 d;have bc:=Z bf d;have bg:=ac bw d;have aa:A (aF (λg=>w.heap.size<=g/\g<U2.heap.size) U2 c q):=O ((bA.keep λg f=>d.block g f.2).mono λg f=>⟨f.1,jq f.2 d.size⟩);have bu:=O (bB.below d);have bv:=Z bC d;clear d a1 a4 bf bw bA bB bC;have e9:=O z;clear z;refine bH ?_
 go_upto_region 7 with fail
 refine jI ?_;refine df (v:=jf i) aj (cI jT I bn I I U) (L ?_);have a1:=c5 U2 q (aa.mono λg f=>f.2);rw[<-ZF]at a1;refine jt I λ_ l=>?_
 go_simp;refine(a1).mono ?_;rintro e ZO ⟨⟨ve,rfl,WN⟩,d⟩;have bf:=Z U d;have bw:=Z bb d;have bA:=Z bc d;have a4:=ac bg d;have bB:A (aF (λg=>w.heap.size<=g/\g<ZO.heap.size) ZO c q):=O ((aa.keep λg f=>d.block g f.2).mono λg f=>⟨f.1,jq f.2 d.size⟩);have bC:=O (bu.below d);have b0:=Z bv d;clear d U bb bc bg aa bu bv;have U:=O WN;clear a1 WN;obtain⟨pb,nb,cb,rfl⟩:∃p n k,ve=jb p n k:=by
  obtain⟨p,k,e⟩:=a8 U;exact⟨p,_,k,e⟩
 have aa:A (ay (·<ZO.heap.size) ZO (jb pb nb cb) 1 t.length (t.map v8)):=O (ay.of_own U (λg f=>(U.lt g f).2));clear U;refine l _ _ ?_;clear l;refine L ?_;iterate 5 refine bH ?_
 go_upto_region 8 with fail
 refine jI ?_;refine bH ?_;have RY:=a4.size;refine jt I λ_ l=>?_
 go_simp;refine(c6 ZO pb nb cb aa).mono ?_;rintro e Uq ⟨⟨U,rfl,a1⟩,d⟩;have bb:=Z bf d;have bc:=Z bw d;have bg:=Z bA d;have bu:=ac a4 d;have bv:A (aF (λg=>w.heap.size<=g/\g<Uq.heap.size) Uq c q):=O ((bB.keep λg f=>d.block g f.2).mono λg f=>⟨f.1,jq f.2 d.size⟩);have b1:=O (bC.below d);have b2:=Z b0 d;have b3:A (ay (·<Uq.heap.size) Uq (jb pb nb cb) 1 t.length (t.map v8)):=O ((aa.keep λg f=>d.block g f).mono λg f=>jq f d.size);clear d bf bw bA a4 bB bC b0 aa;have aa:A (aF (λg=>w.heap.size<=g/\g<Uq.heap.size) Uq c U):=O (a1.mono λg f=>⟨jS RY f.1,f.2⟩);clear a1 RY;refine l _ _ ?_;clear l;refine L ?_;obtain⟨AD,Yv⟩:=J ((av c U).toArray);rw[<-Yv];have b0:A ((jm.info? 63).map (·.size)=ja AD.size):=O (by rw[Yv,gK c U aa.plen aa.clen];exact fN);have eb:A (u.size=AD.size):=O (by rw[Yv,gK c U aa.plen aa.clen,bh];exact o6);have ec:A (AD.all (·.oneCell')=jh):=O (by rw[Yv];exact LD aa);have WR:=O Yv;clear Yv;iterate 3 refine bH ?_
 have b:=jL Uq (jd u 63);obtain⟨S7,f⟩:=J Uq.heap.size;rw[<-f]at b;have d:=jK (ai Uq (jd u 63)) (jU f.symm) AD;have z:=jJ (Uq.alloc (jd u 63)) S7 _ AD _ _ b;refine jt I λ_ l=>gL 63 I u bs (l _ _ ?_)
 clear l;rw[<-f];refine L ?_;refine jt I λ_ l=>jE 63 _ _ I S7 AD I I 63 u b b0 eb ec (l _ _ ?_)
 clear l b f;refine L ?_;obtain⟨a4,M⟩:=J ((Uq.alloc (jd u 63)).setRow S7 AD);rw[<-M]at d z⊢;clear M;have a1:=Z bb d;have bf:=Z bc d;have b:=Z bg d;have bw:=ac bu d;have bA:A (aF (λg=>w.heap.size<=g/\g<a4.heap.size) a4 c q):=O ((bv.keep λg f=>d.block g f.2).mono λg f=>⟨f.1,jq f.2 d.size⟩);have bB:=O (b1.below d);have bC:=Z b2 d;have b4:A (ay (·<a4.heap.size) a4 (jb pb nb cb) 1 t.length (t.map v8)):=O ((b3.keep λg f=>d.block g f).mono λg f=>jq f d.size);have b5:A (aF (λg=>w.heap.size<=g/\g<a4.heap.size) a4 c U):=O ((aa.keep λg f=>d.block g f.2).mono λg f=>⟨f.1,jq f.2 d.size⟩);clear d bb bc bg bu bv b1 b2 b3 aa;have aa:=O z;clear z;refine bH ?_
 go_upto_region 9 with fail
 have d:=bz a4;refine jY ?_;refine bY (λm=>m.heap[RA]?=ja (jd R 29 (0,0))) (.t 0 (.o 1 (.o 2 (.o 3 (.t 4 (.t 5 (.t 6 (.t 7 (.t 8 .done))))))))) ag ag ag G (λ_ _ _ _ h=>h) b ?_;obtain⟨Zm,M⟩:=J a4.drew;rw[<-M]at d⊢;clear M;have z:=Z a1 d;have bb:=Z bf d;have bc:=Z b d;have bg:=ac bw d;have bu:A (aF (λg=>w.heap.size<=g/\g<Zm.heap.size) Zm c q):=O ((bA.keep λg f=>d.block g f.2).mono λg f=>⟨f.1,jq f.2 d.size⟩);have bv:=O (bB.below d);have b1:=Z bC d;have b2:A (ay (·<Zm.heap.size) Zm (jb pb nb cb) 1 t.length (t.map v8)):=O ((b4.keep λg f=>d.block g f).mono λg f=>jq f d.size);have b3:A (aF (λg=>w.heap.size<=g/\g<Zm.heap.size) Zm c U):=O ((b5.keep λg f=>d.block g f.2).mono λg f=>⟨f.1,jq f.2 d.size⟩);have ca:=Z aa d;clear d a1 bf b bw bA bB bC b4 b5 aa
 (refine aE (v:=jf R) I aj (λm r=>cI jF I bl I I r) (L ?_))
 refine ar I (λK' l=>?_);go_simp;refine(UK Zm).mono ?_;rintro e aa ⟨rfl,d⟩;have a1:=Z z d;have bf:=Z bb d;have b:=Z bc d;have bw:=ac bg d;have bA:A (aF (λg=>w.heap.size<=g/\g<aa.heap.size) aa c q):=O ((bu.keep λg f=>d.block g f.2).mono λg f=>⟨f.1,jq f.2 d.size⟩);have bB:=O (bv.below d);have bC:=Z b1 d;have b4:A (ay (·<aa.heap.size) aa (jb pb nb cb) 1 t.length (t.map v8)):=O ((b2.keep λg f=>d.block g f).mono λg f=>jq f d.size);have b5:A (aF (λg=>w.heap.size<=g/\g<aa.heap.size) aa c U):=O ((b3.keep λg f=>d.block g f.2).mono λg f=>⟨f.1,jq f.2 d.size⟩);have cc:=Z ca d;clear d z bb bc bg bu bv b1 b2 b3 ca;refine l _ _ b.out λ_=>?_
 clear l;refine L ?_;have d:=ai aa (jd #[N T 1,N T 4,N T F,N T H,N T 0] 47);have RV:=kz aa [N T 1,N T 4,N T F,N T H,N T 0] 47 5 1 aa.heap.size (jw _) I G;have S:ay (·<(aa.alloc (jd #[N T 1,N T 4,N T F,N T H,N T 0] 47)).heap.size) (aa.alloc (jd #[N T 1,N T 4,N T F,N T H,N T 0] 47)) (jb (ja ⟨aa,0,jc⟩) 1 1) 5 1 [N T 1,N T 4,N T F,N T H,N T 0]:=ay.of_own RV (λg f=>(RV.lt g f).2);refine ar I (λK' l=>?_);go_simp;refine l _ _ (az b d) λ_=>?_
 clear l RV;refine L ?_;obtain⟨bb,M⟩:=J (aa.alloc (jd #[N T 1,N T 4,N T F,N T H,N T 0] 47));obtain⟨fe,f⟩:=J aa.heap.size;rw[<-M]at d S⊢;rw[<-f]at S⊢;clear M f;have bg:=Z a1 d;have bu:=Z bf d;have bv:=Z b d;have b1:=ac bw d;have b2:A (aF (λg=>w.heap.size<=g/\g<bb.heap.size) bb c q):=O ((bA.keep λg f=>d.block g f.2).mono λg f=>⟨f.1,jq f.2 d.size⟩);have b3:=O (bB.below d);have ca:=Z bC d;have cd:A (ay (·<bb.heap.size) bb (jb pb nb cb) 1 t.length (t.map v8)):=O ((b4.keep λg f=>d.block g f).mono λg f=>jq f d.size);have ce:A (aF (λg=>w.heap.size<=g/\g<bb.heap.size) bb c U):=O ((b5.keep λg f=>d.block g f.2).mono λg f=>⟨f.1,jq f.2 d.size⟩);have cf:=Z cc d;clear d a1 bf b bw bA bB bC b4 b5 cc;have ed:=O S;clear S;refine ar I (λK' l=>?_);go_simp;refine(cL bb _ ed.out).mono ?_;rintro e bc ⟨⟨p9,k9,rfl⟩,d⟩;have bw:=Z bg d;have bA:=Z bu d;have b:=Z bv d;have z:=ac b1 d;have bB:A (aF (λg=>w.heap.size<=g/\g<bc.heap.size) bc c q):=O ((b2.keep λg f=>d.block g f.2).mono λg f=>⟨f.1,jq f.2 d.size⟩);have bC:=O (b3.below d);have b4:=Z ca d;have b5:A (ay (·<bc.heap.size) bc (jb pb nb cb) 1 t.length (t.map v8)):=O ((cd.keep λg f=>d.block g f).mono λg f=>jq f d.size);have cc:A (aF (λg=>w.heap.size<=g/\g<bc.heap.size) bc c U):=O ((ce.keep λg f=>d.block g f.2).mono λg f=>⟨f.1,jq f.2 d.size⟩);have cj:=Z cf d;clear d bg bu bv b1 b2 b3 ca cd ce cf;refine l _ _ b.out λ_=>?_
 clear l;refine L ?_;iterate 5 refine bi ?_
 refine jV ?_
 go_upto_region 10 with fail
 refine jI ?_;refine df (v:=jf K1) aj (by rw[Ul];exact vV I _) ?_;refine L ?_;refine jt I λ_ l=>?_
 go_simp;refine(cX bc (HT.below z)).mono ?_;rintro e a1 ⟨vr,rfl,b1,d⟩;have bg:=Z bw d;have b2:=Z bA d;have b3:=Z b d;have ca:=ac z d;have bf:A (aF (λg=>w.heap.size<=g/\g<a1.heap.size) a1 c q):=O ((bB.keep λg f=>d.block g f.2).mono λg f=>⟨f.1,jq f.2 d.size⟩);have bu:=O (bC.below d);have bv:=Z b4 d;have cd:A (ay (·<a1.heap.size) a1 (jb pb nb cb) 1 t.length (t.map v8)):=O ((b5.keep λg f=>d.block g f).mono λg f=>jq f d.size);have ce:A (aF (λg=>w.heap.size<=g/\g<a1.heap.size) a1 c U):=O ((cc.keep λg f=>d.block g f.2).mono λg f=>⟨f.1,jq f.2 d.size⟩);have cf:=Z cj d;clear d bw bA b z bB bC b4 b5 cc cj;obtain⟨gl,cl,LC,rfl,bw,bA,b,z⟩:=F5 b1 G;have b4:=O b;have eg:A (∀j a2,((cG (kb 1#8) 9).map v8)[j]?=ja a2->LC[288+j]?=ja a2):=O (λj a2 hj=>z _ _ (Fi (kb 1#8) (kH _) 10 9 j G a2 hj));clear b1 bw bA b z;refine l _ _ ?_;clear l;refine L ?_;refine bH ?_
 go_upto_region 11 with fail
 obtain⟨gm,om,fm,ej,bd⟩:=KJ HC bu;injection ej with ek em ep
 subst ek em ep;obtain⟨fo,fv,z⟩:=Ju (n:=1) (by rw[HC];exact Ld) bf;obtain⟨ga,gb,a2⟩:=Rb (n:=1) (by rw[HC];exact JZ) bf;rw[<-ZF]at z a2;have eq:=O z;have er:=O a2;obtain⟨x0,bw,bA⟩:=Pl (vm:=jb (ja ⟨gm,om,jc⟩) 2 cm) (vt:=jb pt nt ct) bu.llen Ot (MF HC);rw[<-bT]at x0 bw bA;have Ya:=O x0;have S4:=O bw;have b1:=O bA;have b5:=bu.llen;have j:A (∀m:jj,m.heap[X]?=ja (jd AX 29 (0,0))->m.rangeAt X 2 ((idC c).map v8)):=O (λm r=>Qk b5 IS bT r);have bB:=Na c;have VA:=KT (idC c) (tJ c);have bC:∀(W:jj),iP W->aF (·<W.heap.size) W c q->jz jm 23 #[jf i] W λe w'=>e=jv (jf ((idC c).map v8).toArray)/\jr W W w':=λW ht x=>by
  rw[ZF];exact CO c q W x (by rw[HC];exact mG.encOk) ht.s.dig
 obtain⟨DC,cc⟩:=J ((idC c).map v8);replace j:=j.out;rw[<-cc]at j bB VA bC;have ev:=O j;have ew:=O bB;have ez:=O VA;have e0:=O bC;have b:A (a1.heap[X]?=ja (jd AX 29 (0,0))/\a1.heap[C]?=ja (jd i 63 (0,0))/\a1.cell? ⟨gm,om+3,jc⟩=ja (N T 7)):=O ⟨bv,bg,bd⟩;clear bd z a2 x0 bw bA b5 j bB VA bC cc;have d:=bz a1;refine jY ?_;refine bY (λm=>m.heap[X]?=ja (jd AX 29 (0,0))/\m.heap[C]?=ja (jd i 63 (0,0))/\m.cell? ⟨gm,om+3,jc⟩=ja (N T 7)) (.t 0 (.t 1 (.t 2 (.t 3 (.t 4 (.t 5 (.t 6 (.t 7 (.t 8 (.t 9 (.t 10 (.t 11 (.t 12 (.t 13 (.t 14 (.t 15 (.t 16 (.t 17 (.t 18 (.t 19 (.t 20 (.t 21 (.t 22 (.t 23 (.t 24 (.t 25 (.t 26 (.t 27 (.t 28 (.t 29 (.t 30 (.t 31 (.t 32 (.t 33 (.o 34 (.t 35 (.t 36 (.t 37 (.t 38 (.t 39 (.t 40 (.t 41 (.t 42 (.t 43 (.t 44 (.t 45 (.t 46 (.t 47 (.t 48 (.t 49 (.t 50 (.t 51 (.t 52 (.t 53 (.t 54 (.t 55 (.t 56 (.t 57 (.t 58 (.t 59 (.t 60 (.t 61 .done)))))))))))))))))))))))))))))))))))))))))))))))))))))))))))))) ag ag ag G (λ_ _ _ _ h=>h) b ?_;obtain⟨bd,M⟩:=J a1.drew;rw[<-M]at d⊢;clear M;have bC:=Z bg d;have b5:=Z b2 d;have cc:=Z b3 d;have bw:=ac ca d;have bA:A (aF (λg=>w.heap.size<=g/\g<bd.heap.size) bd c q):=O ((bf.keep λg f=>d.block g f.2).mono λg f=>⟨f.1,jq f.2 d.size⟩);have cj:=Z bv d;have ck:A (ay (·<bd.heap.size) bd (jb pb nb cb) 1 t.length (t.map v8)):=O ((cd.keep λg f=>d.block g f).mono λg f=>jq f d.size);have cn:A (aF (λg=>w.heap.size<=g/\g<bd.heap.size) bd c U):=O ((ce.keep λg f=>d.block g f.2).mono λg f=>⟨f.1,jq f.2 d.size⟩);have cp:=Z cf d;have cq:=Z b4 d;have z:=O (And.intro (az b.1 d) (And.intro (az b.2.1 d) ((bX (d.block gm (fb b.2.2))).trans b.2.2)));clear d bg b2 b3 ca bf bv cd ce cf b4 b;iterate 8 refine bi ?_
 (refine aE (v:=?_) I aj (λm r=>?_) ?_;rotate_left;(have b:=ae r.1 S4;go_simp;with_reducible rfl);refine L ?_)
 iterate 4 refine bi ?_
 (refine aE (v:=?_) I aj (λm r=>?_) ?_;rotate_left;(have b:=ae r.1 Ya;go_simp;with_reducible rfl);refine L ?_)
 iterate 4 refine bi ?_
 (refine aE (v:=?_) I aj (λm r=>?_) ?_;rotate_left;(have b:=ae r.1 b1;go_simp;with_reducible rfl);refine L ?_)
 iterate 5 refine bi ?_
 (refine aE (v:=?_) I aj (λm r=>?_) ?_;rotate_left;(have b:=ae r.1 b1;go_simp;with_reducible rfl);refine L ?_)
 iterate 2 refine bi ?_
 (refine aE (v:=?_) I aj (λm r=>?_) ?_;rotate_left;(have b:=r.2.2;go_simp;with_reducible rfl);refine L ?_)
 iterate 4 refine bi ?_
 (refine aE (v:=jf DC.toArray) I aj (λm r=>oD qk I ew I I (ev m r.1)) (L ?_))
 (refine aE (v:=jf i) I aj (λm r=>cI jT I bn I I r.2.1) (L ?_))
 refine ar I (λK' l=>?_);go_simp;refine(e0 bd (HT.below bw) (bA.mono λg f=>f.2)).mono ?_;rintro e j ⟨rfl,d⟩;have bf:=Z bC d;have bg:=Z b5 d;have b2:=Z cc d;have b3:=ac bw d;have b4:A (aF (λg=>w.heap.size<=g/\g<j.heap.size) j c q):=O ((bA.keep λg f=>d.block g f.2).mono λg f=>⟨f.1,jq f.2 d.size⟩);have ca:=Z cj d;have cd:A (ay (·<j.heap.size) j (jb pb nb cb) 1 t.length (t.map v8)):=O ((ck.keep λg f=>d.block g f).mono λg f=>jq f d.size);have ce:A (aF (λg=>w.heap.size<=g/\g<j.heap.size) j c U):=O ((cn.keep λg f=>d.block g f.2).mono λg f=>⟨f.1,jq f.2 d.size⟩);have bv:=Z cp d;have bB:=Z cq d;have a2:=O (And.intro (az z.1 d) (And.intro (az z.2.1 d) ((bX (d.block gm (fb z.2.2))).trans z.2.2)));clear d bC b5 cc bw bA cj ck cn cp cq z;refine l _ _ a2.out λ_=>?_
 clear l;refine L ?_
 (refine aE (v:=?_) I aj (λm r=>?_) ?_;rotate_left;(have z:=ez.out;go_simp;with_reducible rfl);refine L ?_)
 iterate 3 refine bi ?_
 (refine aE (v:=?_) I aj (λm r=>?_) ?_;rotate_left;(have b:=ae r.2.1 eq;go_simp;with_reducible rfl);refine L ?_)
 iterate 5 refine bi ?_
 (refine aE (v:=?_) I aj (λm r=>?_) ?_;rotate_left;(have b:=ae r.2.1 er;go_simp;with_reducible rfl);refine L ?_)
 iterate 16 refine bi ?_
 refine jV ?_
 go_upto_region 12 with fail
 have bw:∀(W:jj),aF (·<W.heap.size) W c q->aF (·<W.heap.size) W c U->jz jm 24 #[jf i,jf AD] W λe w'=>e=jv (.bool jh)/\jr W W w':=λW h1 h2=>by
  rw[ZF,WR];have S:=mG.encOk;rw[<-HC]at S;have h:=Mi c c q U W h1 h2 S S.lens.1 S.lens.2.1 S.lens.2.2.1 S.lens.2.2.2;rw[zL I]at h;exact h
 have Sv:=O bw;have bA:∀(W:jj),jz jm 25 #[jf u] W λe w'=>e=jv (N T 220)/\jr W W w':=λW=>by
  rw[bh];have h:=Dt eR fX W Gz G G G G (λb z=>by cases z) (λb z=>by cases z);rw[Gt]at h;exact h
 have e1:=O bA;obtain⟨RL,b⟩:=J (((cG (kb 1#8) 9).map v8).toArray);have e2:A ((jm.info? 64).map (·.size)=ja ((cG (kb 1#8) 9).map v8).length):=O (by rw[jN,eQ _ (kH _)];kernel_rfl);have bC:∀(W:jj),gy W->jz jm 26 #[jf P,jf RL] W λe w'=>e=jv (jf Q)/\jr W W w':=λW ht=>by
  rw[bM,br,b,I2];exact EQ dC (cG (kb 1#8) 9) dT (eQ _ (kH _) _) W ht
 have e3:=O bC;have e4:=O b;have e5:A (∀z,(Op.equalIn 10000 64 (jf Q) (jf Q)).run jm z=.ok jh z):=O (λz=>by rw[bM];exact J8 _ zD z);have a2:A (j.heap[C]?=ja (jd i 63 (0,0))/\j.heap[S7]?=ja (jd AD 63 (0,0))/\j.heap[K]?=ja (jd Q 64 (0,0))/\j.heap[gl]?=ja (jd LC 64 (0,0))):=O ⟨bf,bv,bg,bB⟩;clear bw bA bC b;have d:=bz j;refine jY ?_;refine bY (λm=>m.heap[C]?=ja (jd i 63 (0,0))/\m.heap[S7]?=ja (jd AD 63 (0,0))/\m.heap[K]?=ja (jd Q 64 (0,0))/\m.heap[gl]?=ja (jd LC 64 (0,0))) (.t 0 (.t 1 (.t 2 (.t 3 (.t 4 (.t 5 (.t 6 (.t 7 (.t 8 (.t 9 (.t 10 (.t 11 (.o 12 (.t 13 (.t 14 (.t 15 (.t 16 (.t 17 (.t 18 (.t 19 (.t 20 (.t 21 (.t 22 (.t 23 (.t 24 (.o 25 (.t 26 (.t 27 (.t 28 (.t 29 (.t 30 (.t 31 (.t 32 (.t 33 (.t 34 (.t 35 (.t 36 (.t 37 (.t 38 (.o 39 (.t 40 (.t 41 (.t 42 .done))))))))))))))))))))))))))))))))))))))))))) ag ag ag G (λ_ _ _ _ h=>h) a2 ?_;obtain⟨b,M⟩:=J j.drew;rw[<-M]at d⊢;clear M;have bC:=Z bf d;have b5:=Z bg d;have cc:=Z b2 d;have cf:=ac b3 d;have bw:A (aF (λg=>w.heap.size<=g/\g<b.heap.size) b c q):=O ((b4.keep λg f=>d.block g f.2).mono λg f=>⟨f.1,jq f.2 d.size⟩);have cj:=Z ca d;have ck:A (ay (·<b.heap.size) b (jb pb nb cb) 1 t.length (t.map v8)):=O ((cd.keep λg f=>d.block g f).mono λg f=>jq f d.size);have bA:A (aF (λg=>w.heap.size<=g/\g<b.heap.size) b c U):=O ((ce.keep λg f=>d.block g f.2).mono λg f=>⟨f.1,jq f.2 d.size⟩);have cn:=Z bv d;have cp:=Z bB d;have M:=O (And.intro (az a2.1 d) (And.intro (az a2.2.1 d) (And.intro (az a2.2.2.1 d) (az a2.2.2.2 d))));clear d bf bg b2 b3 b4 ca cd ce bv bB a2;iterate 10 refine bi ?_
 (refine aE (v:=jf i) I aj (λm r=>cI jT I bn I I r.1) (L ?_))
 (refine aE (v:=jf AD) I aj (λm r=>cI jT I b0 I I r.2.1) (L ?_))
 refine ar I (λK' l=>?_);go_simp;refine(Sv b (bw.mono λg f=>f.2) (bA.mono λg f=>f.2)).mono ?_;rintro e z ⟨rfl,d⟩;have bB:=Z bC d;have b2:=Z b5 d;have b3:=Z cc d;have b4:=ac cf d;have ca:A (aF (λg=>w.heap.size<=g/\g<z.heap.size) z c q):=O ((bw.keep λg f=>d.block g f.2).mono λg f=>⟨f.1,jq f.2 d.size⟩);have cd:=Z cj d;have ce:A (ay (·<z.heap.size) z (jb pb nb cb) 1 t.length (t.map v8)):=O ((ck.keep λg f=>d.block g f).mono λg f=>jq f d.size);have cq:A (aF (λg=>w.heap.size<=g/\g<z.heap.size) z c U):=O ((bA.keep λg f=>d.block g f.2).mono λg f=>⟨f.1,jq f.2 d.size⟩);have cs:=Z cn d;have cu:=Z cp d;have bf:=O (And.intro (az M.1 d) (And.intro (az M.2.1 d) (And.intro (az M.2.2.1 d) (az M.2.2.2 d))));clear d bC b5 cc cf bw cj ck bA cn cp M;refine l _ _ bf.out λ_=>?_
 clear l;refine L ?_;iterate 11 refine bi ?_
 (refine aE (v:=jf u) I aj (λm r=>by rw[bh];exact EH I _) ?_;refine L ?_)
 refine ar I (λK' l=>?_);go_simp;refine(e1 z).mono ?_;rintro e M ⟨rfl,d⟩;have bw:=Z bB d;have bA:=Z b2 d;have bC:=Z b3 d;have bv:=ac b4 d;have b5:A (aF (λg=>w.heap.size<=g/\g<M.heap.size) M c q):=O ((ca.keep λg f=>d.block g f.2).mono λg f=>⟨f.1,jq f.2 d.size⟩);have cc:=Z cd d;have cf:A (ay (·<M.heap.size) M (jb pb nb cb) 1 t.length (t.map v8)):=O ((ce.keep λg f=>d.block g f).mono λg f=>jq f d.size);have cj:A (aF (λg=>w.heap.size<=g/\g<M.heap.size) M c U):=O ((cq.keep λg f=>d.block g f.2).mono λg f=>⟨f.1,jq f.2 d.size⟩);have ck:=Z cs d;have cn:=Z cu d;have bg:=O (And.intro (az bf.1 d) (And.intro (az bf.2.1 d) (And.intro (az bf.2.2.1 d) (az bf.2.2.2 d))));clear d bB b2 b3 b4 ca cd ce cq cs cu bf;refine l _ _ bg.out λ_=>?_
 clear l;refine L ?_;iterate 8 refine bi ?_
 (refine aE (v:=jf Q) I aj (λm r=>cI qj I bN I I r.2.2.1) (L ?_))
 (refine aE (v:=jf P) I aj (λm r=>by rw[br];exact CC I _) ?_;refine L ?_)
 iterate 2 refine bi ?_
 (refine aE (v:=jf RL) I aj (λm r=>by rw[e4];exact oD qj I e2 I I (sa (o:=288) r.2.2.2 eg)) ?_;refine L ?_)
 refine ar I (λK' l=>?_);go_simp;refine(e3 M (HT.below bv).s).mono ?_;rintro e bf ⟨rfl,d⟩;have b2:=Z bw d;have b3:=Z bA d;have b4:=Z bC d;have bB:=ac bv d;have ca:A (aF (λg=>w.heap.size<=g/\g<bf.heap.size) bf c q):=O ((b5.keep λg f=>d.block g f.2).mono λg f=>⟨f.1,jq f.2 d.size⟩);have cd:=Z cc d;have ce:A (ay (·<bf.heap.size) bf (jb pb nb cb) 1 t.length (t.map v8)):=O ((cf.keep λg f=>d.block g f).mono λg f=>jq f d.size);have cp:A (aF (λg=>w.heap.size<=g/\g<bf.heap.size) bf c U):=O ((cj.keep λg f=>d.block g f.2).mono λg f=>⟨f.1,jq f.2 d.size⟩);have cq:=Z ck d;have cs:=Z cn d;have g:=O (And.intro (az bg.1 d) (And.intro (az bg.2.1 d) (And.intro (az bg.2.2.1 d) (az bg.2.2.2 d))));clear d bw bA bC bv b5 cc cf cj ck cn bg;refine l _ _ g.out λ_=>?_
 clear l;refine L ?_
 (refine aE (v:=?_) I aj (λm r=>?_) ?_;rotate_left;(have m:=e5.out;go_simp;with_reducible rfl);refine L ?_)
 iterate 2 refine bi ?_
 refine jV ?_
 go_wp2_with fail
 go_ret;exact⟨I,bB⟩
section
open Go.RowKit Go.ChangeShapes Go.WideShapes Go.Deep
theorem commitsReach_w{H:Type}{enc:j6×jo->H}(c:jo)(i:DataW H)(j:jn MemPlace)(k:DataW.Trod enc jm w 0 (λ_=>jh) jh 29 c i j)(m:Value.okWide jm w .any C 29 c)
 (d:jl) (P:(Lit.int .i64 d).wf=jh) (f:jo) (n:DataW H) (o:jn MemPlace) (p:DataW.Trod enc jm w 0 (λ_=>jh) jh 30 f n o) (q:Value.okWide jm w .any C 30 f) (r:laidMetH jm td w):
 jz jm 3 #[c,.int .i64 d,f] w λe u=>e=.returned (.bool jh)/\jr w w u:=by
 obtain⟨g,vm,vt,rfl,W,Q,x,y,-⟩:=O4 k m;obtain⟨z,B,base,rfl⟩:=okWide_slice underlying30 q;obtain⟨fuel,D⟩:=p;obtain⟨l,F,-,K⟩:=LH (v:=.slice z B base) (by simpa [Value.cells]using D);obtain⟨t,s⟩:=Jy r;exact K6 iP (λa b h M=>h.below M) MI g vm vt d l _ w W (EK.At.of_sl (E:=EC) F) x y K ⟨t,s⟩
end

end Go.Proofs.YtdjkajodkjfjlaaGreatDoor
