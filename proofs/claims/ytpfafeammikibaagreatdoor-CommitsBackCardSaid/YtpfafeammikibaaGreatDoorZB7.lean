/- Texts of the proof, part 7 of 8 (Ru Je Jg Jf Jh Jk Lo Jp Qe Qg Rv Bw Qf). -/
import Derived.Test.YtpfafeammikibaaGreatDoorZB1
import Derived.Test.YtpfafeammikibaaGreatDoorZB2
import Derived.Test.YtpfafeammikibaaGreatDoorZB3
import Derived.Test.YtpfafeammikibaaGreatDoorZB4
import Derived.Test.YtpfafeammikibaaGreatDoorZB5
import Derived.Test.YtpfafeammikibaaGreatDoorZB6
namespace Go.Proofs.YtpfafeammikibaaGreatDoor
set_option maxHeartbeats 64000000
set_option maxRecDepth 100000
set_option linter.unusedVariables false
set_option linter.unusedSimpArgs false
open Go.RowKit
open Go.Proofs.Tryz
open Go.Value renaming int->I
open Go.IntKind renaming i64->N
open _root_.Option renaming some->T,none->hF,bind_some->jk,map_some->jP
open Go.RowKit renaming Hid->A,Below->jb
open Go.Value renaming slice->hH,agg->hZ,pointer->ji,tuple->jj,string->jv
open Go.Obj renaming cells->hK
open Go renaming World->hQ,undef->hU,Value->ih,wpList_plain->jg,Calls->jh,wp_store_row->jl,wp_region_lit->jn,setRow_heap->jp,below_setRow->jq,execOp->jt,TypeId->ju,Oper->jy,setRow_other->jz,Exit->jA,Code->jE,Program->jH,wp_region_noPanic->jI,bodyPost->jJ,bodyPost_ret_by->jK,fenced_wide->jL,stepR_block->jQ,Ending->jU,PanicEntry->jY,KeepsFrom->j3,wpList_load_row->j4,wpOp_step->j5,Operand->km,wpS_region->mz,leaves_cons->nn,callsIn_wide->qg,wp_store_mid->qh
open Go.Value renaming int->ic,oneCell'->jX,slice->pz
open Go.IntKind renaming u8->ii
open Go.Proofs.Tryz renaming prog->ja
open _root_.Nat renaming lt_of_lt_of_le->jc,le_refl->jd,le_trans->js,le_of_eq->jD,lt_irrefl->qf
open _root_.Array renaming getElem?_eq_some_iff->je,replicate->jM,ext'->j7,toList_setIfInBounds->j8,all_eq_true_iff_forall_mem->qc,replicate_succ->qn,replicate_zero->qo
open Go.Ending renaming returned->jf
open Go.Proofs.Tryz renaming underlying54->jm,underlying31->jB,underlying55->qi,underlying23->qj
open Go.World renaming alloc_heap_new->jo,size_alloc->jN,putObj_heap_other->jZ,setRow->lw,putObj->ob,cell?->oo,putObj_heap_same->qk,ownsRow_nil->qv
open _root_.List renaming length_map->jr,mem_cons->jw,size_toArray->jC,length_append->jF,cons_append->jO,nodup_cons->jR,map_append->jS,set_cons_succ->jV,length->jW,getElem?_eq_getElem->j0,not_mem_nil->j1,nil_append->j6,set_append_right->j9,map_nil->ki,replicate->kl,length_cons->kn,mem_append->kw,append_assoc->lo,map_cons->lv,getD->mb,flatMap_cons->ms,mem_cons_self->oj,set->ol,getElem?_map->ow,setIfInBounds_toArray->o4,set_cons_zero->pa,append_nil->pr,flatMap_nil->p6,getElem?_eq_some_iff->qa,length_filter_le->qb,mem_toArray->qd,mem_nil_iff->qe,mem_cons_of_mem->ql,length_nil->qm,push_toArray->qs,append_toArray->qt,take_of_length_le->qu,all_eq_true->qw,filter_cons_of_pos->qy,tail_drop->qz
open Go.NoPanic renaming normal->jG
open _root_.Bool renaming and_eq_true->jT,or_eq_true->qx,eq_false_iff->qA
open Go.RowKit.Below renaming heap_alloc->n0,refl->oi
section
variable {P:jH}
def WpF(P:jH)(fn:FuncId)(c:jE)(f:jA->Act->hQ->Prop)(a:Act)(w:hQ):Prop:=
 ∀(b:Frame) (k:List Item) (cs:List Frame),b.roundOf=hF->b.fn=fn->∃e d w',f e d w'/\ArrivesIn (Machine.fenced P Fence.wide) P (lone (b.atR a (.code c::k)) cs w) b k cs e d w'
theorem gY{fn:FuncId}{c:jE}{d:jA->Act->hQ->Prop}{a:Act}{w:hQ}(h:c.wp P d a w):WpF P fn c d a w:=
 λb k cs e _=>(wpIn_wide (n:=0)).2 h b k cs e trivial (room_wide _)
theorem Fy{fn:FuncId}{x y:jE}{j:jA->Act->hQ->Prop}{a:Act}{w:hQ}(h:WpF P fn x (Exit.then (WpF P fn y j) j) a w):WpF P fn (.seq x y) j a w:=by
 intro b k cs m n;have c:(lone (b.atR a (.code (.seq x y)::k)) cs w).fenced P Fence.wide:=jL _ _;obtain⟨e,g,i,d,f⟩:=h b (.code y::k) cs m n
 cases e with
 |normal=>
  obtain⟨l,o,p,q,r⟩:=d b k cs m n;exact⟨l,o,p,q,.of_steps (.head c stepR_seq f) r⟩
 |exit o=>exact⟨_,g,i,d,.of_steps (.one c stepR_seq) (.pass (x:=.code y) rfl (λ_ _=>.inl av) f)⟩
 |goto l=>exact⟨_,g,i,d,.of_steps (.one c stepR_seq) (.pass (x:=.code y) rfl (λ_ _=>.inl av) f)⟩
 |ret=>exact⟨_,g,i,d,.of_steps (.one c stepR_seq) (.pass (x:=.code y) rfl (λ_ _=>.inl av) f)⟩
 |panic p=>exact⟨_,g,i,d,.of_steps (.one c stepR_seq) (.pass (x:=.code y) rfl (λ_ _=>.inl av) f)⟩
 |outgrown=>exact⟨_,g,i,d,.of_steps (.one c stepR_seq) (.pass (x:=.code y) rfl (λ_ _=>.inl av) f)⟩
theorem Fb{f:FuncId}{fn:Func}{c:jE}{args:Array ih}{w:hQ}{R:jU->hQ->Prop}(q:P.funcs[f]?=T fn)(v:fn.body=T c)
 (h:WpF P f c (bodyPostM Fence.wide 0 P fn R) {tmps:=args++jM (fn.ntmps-args.size) hU,defers:=[]} w):jh P f args w R:=by
 refine(qg (n:=0)).1 ⟨trivial,λcs r=>?_⟩
 let b:Frame:={(default:Frame)with fn:=f,kind:=.normal,roundOf:=hF}
 have x:Frame.enter P f args .normal=b.atR {tmps:=args++jM (fn.ntmps-args.size) hU,defers:=[]} [.code c]:=by
  simp[Frame.enter,Frame.atR,q,v,b]
 obtain⟨e,a,w',d,g⟩:=h b [] cs rfl rfl;rw[<-x]at g
 cases e with
 |normal=>
  obtain⟨i,j,k,l,m,o,p⟩:=leaves_stepsInM a.defers .returning w' {b.atR a []with mode:=.returning} cs rfl rfl rfl q rfl trivial r d;exact⟨i,j,k,l,ComesIn.of_steps (StepsIn.trans g (.one (jL _ _) (stepR_end rfl))) m,o,p⟩
 |ret=>
  obtain⟨s,t⟩:=g.1 rfl;obtain⟨i,j,k,l,m,o,p⟩:=leaves_stepsInM a.defers .returning w' {b.atR a s with mode:=.returning} cs rfl rfl rfl q rfl trivial r d;exact⟨i,j,k,l,ComesIn.of_steps t m,o,p⟩
 |panic u=>
  obtain⟨s,t⟩:=g;obtain⟨i,j,k,l,m,o,p⟩:=leaves_stepsInM a.defers (.panicking u) w' {b.atR a s with mode:=.panicking u} cs rfl rfl rfl q rfl trivial r d;exact⟨i,j,k,l,ComesIn.of_steps t m,o,p⟩
 |exit i=>exact d.elim
 |goto l=>exact d.elim
 |outgrown=>exact⟨.outgrown,w',b,d,g.resolve_left (by simp[b]),rfl,trivial⟩
def Hq(P:jH)(l:Nat)(R:jU->hQ->Prop):jA->Act->hQ->Prop
 | .panic b,a,w=>a.defers=[]/\R (.panicked b) w
 |e,a,w=>roundPost P l R e a w
theorem Nh{n:Nat}{l:Nat}{f:FuncId}{fd:Func}{tmps:Array ih}{assign body:jE}{w:hQ}{R:jU->hQ->Prop}(C:P.funcs[f]?=T fd)
 (h:assign.wpIn (Fence.wide.inRound l) n P (Exit.then (λp y=>∃x,(Instr.beginRound l).run P y=.ok () x/\body.wpIn (Fence.wide.inRound l) n P (Hq P l R) p x) (λ_ _ _=>False))
  {tmps:=tmps,defers:=[]} w):
 RoundIn Fence.wide n P l f tmps assign body w R:=by
 refine⟨trivial,λc cs D=>?_⟩
 let b:Frame:={(default:Frame)with fn:=f,kind:=.normal,roundOf:=T l}
 have E:Frame.round l f tmps assign body .normal=b.atR {tmps:=tmps,defers:=[]} [.code assign,.beginRound,.code body]:=by
  simp[Frame.round,Frame.atR,b]
 have d:(Fence.wide.inRound l).room ((c::cs).length+1+n):=D;obtain⟨e,p,y,k,m⟩:=h b [.beginRound,.code body] (c::cs) rfl trivial d;rw[<-E]at m
 cases e with
 |normal=>
  obtain⟨x,F,H⟩:=k;have q:StepsIn (Machine.fenced P (Fence.wide.inRound l)) P (lone (b.atR p [.beginRound,.code body]) (c::cs) y) (lone (b.atR p [.code body]) (c::cs) x):=
   .one (fenced_calm (fr:=b.atR p [.beginRound,.code body]) trivial d rfl) (stepR_beginRound rfl F)
  obtain⟨K,r,z,o,s⟩:=H b [] (c::cs) rfl trivial d
  cases K with
  |normal=>
   obtain⟨v,g,i,a⟩:=o;exact⟨jf v,g,a,(StepsIn.trans m q).trans (StepsIn.trans s (.one (fenced_calm (fr:=b.atR r []) trivial d rfl) (stepR_round_end rfl rfl i)))⟩
  |ret=>
   obtain⟨v,g,i,a⟩:=o;obtain⟨u,j⟩:=s.2 rfl;exact⟨jf v,g,a,(StepsIn.trans m q).trans (StepsIn.trans j (.one (fenced_calm (fr:=b.atR r (.code .ret::u)) trivial d rfl) (stepR_round_ret rfl rfl i)))⟩
  |exit B=>
   obtain⟨v,g,i,a⟩:=o;obtain⟨u,hk,j⟩:=s.2 rfl rfl;exact⟨jf v,g,a,(StepsIn.trans m q).trans (StepsIn.trans j (.one (fenced_calm (fr:=b.atR r (.code (.exit B)::u)) trivial d rfl) (stepR_round_exit rfl rfl hk i)))⟩
  |goto t=>
   obtain⟨v,g,i,a⟩:=o;obtain⟨u,hk,j⟩:=s.2 rfl rfl;exact⟨jf v,g,a,(StepsIn.trans m q).trans (StepsIn.trans j (.one (fenced_calm (fr:=b.atR r (.code (.goto t)::u)) trivial d rfl) (stepR_round_goto rfl rfl hk i)))⟩
  |panic g=>
   obtain⟨i,a⟩:=o;obtain⟨u,j⟩:=s;have v:({b.atR r u with mode:=.panicking g}:Frame).leaving P z (.panicked g):=⟨rfl,i,fd,C⟩;exact⟨.panicked g,z,a,(StepsIn.trans m q).trans (StepsIn.trans j (.one (jL _ _) (step_leave_panicked v)))⟩
  |outgrown=>exact o.elim
 |exit B=>exact k.elim
 |goto l=>exact k.elim
 |ret=>exact k.elim
 |panic g=>exact k.elim
 |outgrown=>exact k.elim
theorem GV{u:FuncId}{g:km}{j:Array Tmp}{assign body:jE}{x:jA->Act->hQ->Prop}{a:Act}{w:hQ}
 (h:∃(l:Nat) (i:List Deferred) (m:hQ) (d:Deferred) (o:hQ) (f:FuncId) (args:Array ih) (p:hQ),
  (Instr.enterLoop u a.tmps j assign body hF).run P w=.ok (l,i) m/\
  (resolve a.eval (rangeCall g l) 0).run P m=.ok d o/\
  (invoke d.target d.args).run P o=.ok (.enter f args) p/\
  jh P f args p (rangePost Fence.wide 0 P l x {a with defers:=i++a.defers})):
 WpF P u (.rangeFunc g j assign body) x a w:=by
 intro b k cs y F;obtain⟨l,i,m,d,o,f,args,p,he,H,K,M⟩:=h;have Q:(Instr.enterLoop b.fn a.tmps j assign body b.roundOf).run P w=.ok (l,i) m:=by rw[y,F];exact he
 have q:=stepR_rangeFunc (P:=P) (b:=b) (a:=a) (k:=k) (cs:=cs) (w:=w) Q H K;obtain⟨e,R,fr,r,s,aa,z⟩:=((qg (n:=0)).2 M).2 (b.atR {a with defers:=i++a.defers} (.inRangeFunc l::k)::cs) (room_wide _)
 cases e with
 |outgrown=>
  obtain⟨c,v,t⟩:=r;exact⟨.outgrown,c,v,t,.inr (Outgrown.of_steps (.one q) s)⟩
 |returned v=>
  obtain⟨B,C,S,D⟩:=r;have E:StepsIn (Machine.fenced P Fence.wide) P (lone (b.atR a (.code (.rangeFunc g j assign body)::k)) cs w) (lone (b.atR {a with defers:=i++a.defers} ((B.map Item.code).toList++k)) cs C):=by
   refine .head (jL _ _) q (StepsIn.trans s (.head (jL _ _) ?_ (.one (jL _ _) (stepR_endRangeFunc S))));rw[<-finish_atR_inRangeFunc l v];exact step_leave_returned z
  rcases B with _|c
  ·exact⟨.normal,_,C,D,E⟩
  obtain⟨U,V,W,t,X⟩:=D b k cs y trivial (room_wide _);exact⟨U,V,W,t,.of_steps E X⟩
 |panicked c=>
  refine⟨.panic c,_,R,r,.inRangeFunc l::k,.head (jL _ _) q (StepsIn.trans s (.one (jL _ _) ?_))⟩;rw[<-Frame.raise_atR];exact step_leave_panicked z
theorem uU{fn:FuncId}{i:Nat}{c:jE}{u:jA->Act->hQ->Prop}{a:Act}{w:hQ}(h:WpF P fn c (Exit.inBlock i u) a w):WpF P fn (.block i c) u a w:=by
 intro b k cs v x;have d:(lone (b.atR a (.code (.block i c)::k)) cs w).fenced P Fence.wide:=jL _ _;obtain⟨e,j,m,f,g⟩:=h b (.inBlock i::k) cs v x
 cases e with
 |normal=>exact⟨.normal,j,m,f,.head d jQ (StepsIn.trans g (.one (jL _ _) stepR_inBlock))⟩
 |exit n=>
  by_cases l:n=i
  ·simp only[Exit.inBlock,l,if_true]at f
   exact⟨.normal,j,m,f,.head d jQ (g.1 k (by simp[exitTo,l]))⟩
  simp only[Exit.inBlock,l,if_false]at f;have this:(i==n)=false:=by simp;exact λh=>l h.symm
  have o:exitTo n (.inBlock i::k)=exitTo n k:=by simp[exitTo,this]
  exact⟨.exit n,j,m,f,λp hk=>.head d jQ (g.1 p (by rw[o];exact hk)),
   λq hk=>let⟨r,s,t⟩:=g.2 q (by rw[o];exact hk);⟨r,s,.head d jQ t⟩⟩
 |goto l=>
  have o:gotoIn l (.inBlock i::k)=gotoIn l k:=by simp[gotoIn]
  exact⟨_,j,m,f,λp hk=>.head d jQ (g.1 p (by rw[o];exact hk)),
   λq hk=>let⟨r,s,t⟩:=g.2 q (by rw[o];exact hk);⟨r,s,.head d jQ t⟩⟩
 |ret=>exact⟨_,j,m,f,.of_steps (.one d jQ) g⟩
 |panic o=>exact⟨_,j,m,f,.of_steps (.one d jQ) g⟩
 |outgrown=>exact⟨_,j,m,f,.of_steps (.one d jQ) g⟩
structure dj(B0:Nat)(a B:hQ):Prop where
 os:B.os=a.os
 tape:B.tape=a.tape
 output:B.output=a.output
 size:a.heap.size<=B.heap.size
 block:∀k,k<a.heap.size->(B.heap[k]?=a.heap[k]?\/(B0<=k/\∃o:Obj,a.heap[k]?=T o/\o.isCells=false))
theorem dj.alloc(B0:Nat)(a:hQ)(o:Obj):dj B0 a (a.alloc o):=⟨rfl,rfl,rfl,by simp,λk hk=>.inl (n0 _ _ _ hk)⟩
theorem dj.ofBelow{B0:Nat}{a B:hQ}(h:jb a a B):dj B0 a B:=⟨h.os,h.tape,h.output,h.size,λk hk=>.inl (h.block k hk)⟩
theorem dj.putObj{B0:Nat}{a:hQ}{l:Nat}{o:Obj}(b:Obj)(c:a.heap[l]?=T o)(d:o.isCells=false)(f:B0<=l):dj B0 a (a.putObj l b):=by
 refine⟨rfl,rfl,rfl,by simp[ob],λk hk=>?_⟩
 by_cases e:k=l
 ·subst e;exact .inr ⟨f,o,c,d⟩
 exact .inl (jZ e)
theorem dj.cells{B0:Nat}{a B:hQ}(h:dj B0 a B){k:Nat}{c:Array ih}{t:ju}{f:Nat×Nat}(hk:a.heap[k]?=T (hK c t f)):B.heap[k]?=T (hK c t f):=by
 rcases h.block k (je.1 hk).1 with e|⟨_,o,b,d⟩
 ·exact e.trans hk
 rw[hk]at b;cases b;cases d
theorem dj.low{B0 k:Nat}{a B:hQ}(h:dj B0 a B)(hk:k<a.heap.size)(b:k<B0):B.heap[k]?=a.heap[k]?:=by
 rcases h.block k hk with e|⟨c,_⟩
 ·exact e
 omega
def lU{β:Type}(B0:Nat)(a:β->hQ->Prop):Prop:=∀s b B,a s b->dj B0 b B->a s B
def zy{α:Type}(P:jH)(g:Nat)(lb:Array ih)(encs:α->Array ih)(n₀:Nat)(S:List α->Prop)(h:List α->List jY->Prop)(V:List α->hQ->Prop)(w:hQ):Prop:=
 ∀(l:Nat) (a:List α->hQ->Prop) (f:List jY->hQ->Prop) (W:hQ),jb w w W->lU W.heap.size a->
  (∀b x d,a b d->V (b++[x]) d->YieldAt Fence.wide 0 P l (encs x) d λe B=>
   (e=jf (.bool true)/\a (b++[x]) B/\jb n₀ d B)\/(∃c,e=.panicked c/\f c B))->
  a [] W->
  jh P g (#[.func (.yield l) #[] #[]]++lb) W λe B=>((∃v,e=jf v)/\∃xs,S xs/\a xs B)\/∃c,e=.panicked c/\(f c B\/∃b,h b c/\a b B)
def Ks{α:Type}(B0 n₀:Nat)(c:List α->hQ->Prop)(d:List jY->hQ->Prop)(xs:List α)(b:hQ):jA->Act->hQ->Prop
 | .normal,_,B=>(j3 B0 b B/\jb n₀ b B)/\c xs B
 | .panic e,a,B=>a.defers=[]/\j3 B0 b B/\d e B
 |_,_,_=>False
theorem vv{α:Type}{u:FuncId}{fd:Func}(UM:P.funcs[u]?=T fd){g:km}{y:Array Tmp}{assign body:jE}{z:jA->Act->hQ->Prop}{a:Act}{w:hQ}
 {gf:Nat} {lb:Array ih} (hg:a.eval g=.func (.func gf) #[] lb) (eg:∀args w,(callFunc gf args).run P w=.ok (.enter gf args) w)
 {encs:α->Array ih} {n₀:Nat} {S:List α->Prop} {M:List α->List jY->Prop} {V:List α->hQ->Prop} (Sr:zy P gf lb encs n₀ S M V w)
 (Tp:n₀<=w.heap.size) (Vb:∀x,(encs x).size=y.size) (hV:lU w.heap.size V)
 (f:List α->hQ->Prop) (C:List jY->hQ->Prop) (m:lU w.heap.size f) (h0:f [] w)
 (Q:Array ih->α->Array ih)
 (aa:∀(l:Nat) (x:α) (b:hQ) (K:Act->hQ->Prop),K {tmps:=Q a.tmps x,defers:=[]} b->
  assign.wpIn (Fence.wide.inRound l) 0 P (Exit.then K (λ_ _ _=>False)) {tmps:=(y.zip (encs x)).foldl (λt (p,v)=>t.setIfInBounds p v) a.tmps,defers:=[]} b)
 (ad:∀(l:Nat) (i:List α) (x:α) (b:hQ),f i b->V (i++[x]) b->w.heap.size<=b.heap.size->(∃r,b.heap[l]?=T (.loop r))->
  body.wpIn (Fence.wide.inRound l) 0 P (Ks w.heap.size n₀ f C (i++[x]) b) {tmps:=Q a.tmps x,defers:=[]} b)
 (al:∀(D:Nat) (xs:List α) (W:hQ),w.heap.size<=D->S xs->f xs W->W.heap[D]?=T (.deferred (T []))->z .normal {a with defers:={target:=.collected D,args:=#[]}::a.defers} W)
 (K:∀(D:Nat) (j:List jY) (W:hQ),w.heap.size<=D->(C j W\/∃i,M i j/\f i W)->W.heap[D]?=T (.deferred (T []))->z (.panic j) {a with defers:={target:=.collected D,args:=#[]}::a.defers} W):
 WpF P u (.rangeFunc g y assign body) z a w:=by
 refine GV ?_;obtain⟨c,l⟩:∃c:LoopState->Option jE->Loop,c=λst pe=>{state:=st,pending:=pe,fn:=u,tmps:=a.tmps,params:=y,assign,body,defers:=w.heap.size}:=⟨_,rfl⟩
 obtain⟨d,n⟩:∃d,(w.alloc (.deferred (T []))).alloc (.loop (c .ready hF))=d:=⟨_,rfl⟩;have bd:d.heap.size=w.heap.size+2:=by rw[<-n];simp
 have au:d.heap[w.heap.size+1]?=T (.loop (c .ready hF)):=by
  rw[<-n];have:=jo (w.alloc (.deferred (T []))) (.loop (c .ready hF));rwa [jN]at this
 have a1:d.heap[w.heap.size]?=T (.deferred (T [])):=by
  rw[<-n];exact(n0 _ _ _ av).trans (jo w _)
 have a2:f [] d:=by rw[<-n];exact m _ _ _ (m _ _ _ h0 (dj.alloc _ _ _)) (dj.alloc _ _ _)
 have a3:jb w w d:=by
  rw[<-n];exact(((oi _ w).alloc (jd _) _).alloc av _)
 let D (W:hQ):Prop:=W.heap[w.heap.size+1]?=T (.loop (c .ready hF))/\W.heap[w.heap.size]?=T (.deferred (T []))
 have a4:lU d.heap.size (fun(_:List α) W=>D W):=by
  rintro s b B ⟨h,k⟩ e;have E:=(je.1 h).1;exact⟨(e.low E Y).trans h,(e.low Y Y).trans k⟩
 have up:∀{β:Type} {f:β->hQ->Prop},lU w.heap.size f->lU d.heap.size f:=by
  intro β f h s b B o e;refine h s b B o ⟨e.os,e.tape,e.output,e.size,λk hk=>?_⟩
  rcases e.block k hk with h|⟨h,p⟩
  ·exact .inl h
  exact .inr ⟨by omega,p⟩
 refine⟨w.heap.size+1,[{target:=.collected w.heap.size,args:=#[]}],d,{target:=.fn (.func gf) lb,args:=#[.func (.yield (w.heap.size+1)) #[] #[]]},d,gf,
  #[.func (.yield (w.heap.size+1)) #[] #[]]++lb,d,?_,?_,?_,?_⟩
 ·rw[<-n,l];exact run_enterLoop_outer _ _ _ _ _
 ·simp only[resolve,hg]
  simp[go_sem]
 ·simp[invoke,go_sem,eg]
 refine(Sr (w.heap.size+1) (λi W=>f i W/\D W) (λj W=>C j W/\W.heap[w.heap.size]?=T (.deferred (T []))) d a3
  (λs b B h e=>⟨up m s b B h.1 e,a4 s b B h.2 e⟩) ?_ ⟨a2,au,a1⟩).mono ?_
 ·
  rintro i x W ⟨k,h,hk⟩ a5;have E:w.heap.size+1<W.heap.size:=(je.1 h).1;have R:=run_yield (P:=P) (args:=encs x) h (by rw[l];exact Vb x);rw[l]at R;refine⟨u,_,assign,body,R,Nh UM (aa _ x W _ ?_)⟩;refine⟨_,run_beginRound h (by rw[l]),?_⟩;have s:(W.putObj (w.heap.size+1) (.loop {c .ready hF with state:=.busy})).heap[w.heap.size+1]?=T (.loop {c .ready hF with state:=.busy}):=qk E;have B:(W.putObj (w.heap.size+1) (.loop {c .ready hF with state:=.busy})).heap[w.heap.size]?=T (.deferred (T [])):=(jZ Y).trans hk;have U:dj w.heap.size W (W.putObj (w.heap.size+1) (.loop {c .ready hF with state:=.busy})):=dj.putObj _ h rfl Y;refine wpIn_mono (ad _ i x _ (m _ _ _ k U) (hV _ _ _ a5 U) (by simp[ob];omega) ⟨_,s⟩) ?_;obtain⟨q,X⟩:∃q,W.putObj (w.heap.size+1) (.loop {c .ready hF with state:=.busy})=q:=⟨_,rfl⟩;have ba:jb n₀ W q:=by rw[<-X];exact gZ Y
  rw[X]at s B⊢;have bb:∀(b:hQ),(j3 w.heap.size q b/\jb n₀ q b)->
   (Instr.endRound (w.heap.size+1) hF).run P b=.ok (.bool true) (b.putObj (w.heap.size+1) (.loop (c .ready hF)))/\
   dj w.heap.size b (b.putObj (w.heap.size+1) (.loop (c .ready hF)))/\
   D (b.putObj (w.heap.size+1) (.loop (c .ready hF)))/\
   jb n₀ W (b.putObj (w.heap.size+1) (.loop (c .ready hF))):=by
   rintro b ⟨o,F⟩;have e:=o.same _ _ Y s rfl;have r:=run_endRound (P:=P) hF e;rw[l]at r⊢;refine⟨r,dj.putObj _ e rfl Y,⟨?_,(jZ Y).trans (o.same _ _ (jd _) B rfl)⟩,(ba.trans F).trans (gZ Y)⟩;rw[l];exact qk (je.1 e).1
  rintro e bf b p
  cases e with
  |normal=>
   obtain⟨o,H⟩:=p;obtain⟨r,SF,F,bc⟩:=bb b o;exact⟨_,_,r,.inl ⟨rfl,⟨m _ _ _ H SF,F⟩,bc⟩⟩
  |ret=>exact p.elim
  |exit F=>exact p.elim
  |goto t=>exact p.elim
  |panic j=>
   obtain⟨r,o,H⟩:=p;exact⟨r,.inr ⟨j,rfl,H,o.same _ _ (jd _) B rfl⟩⟩
  |outgrown=>exact p.elim
 
 rintro e p (⟨⟨v,rfl⟩,xs,b,k,h,hk⟩|⟨j,rfl,(⟨k,hk⟩|⟨i,o,k,h,hk⟩)⟩)
 ·exact⟨hF,_,by have:=run_endLoop (P:=P) h (by rw[l];simp);rw[l]at this;exact this,al _ xs _ (jd _) b (m _ _ _ k (dj.putObj _ h rfl Y)) ((jZ Y).trans hk)⟩
 ·exact K _ j _ (jd _) (.inl k) hk
 exact K _ j _ (jd _) (.inr ⟨i,o,k⟩) hk
def marksOf(Ds:List Nat):List Deferred:=Ds.map λD=>{target:=.collected D,args:=#[]}
structure L2(Ds:List Nat)(w w':hQ):Prop where
 os:w'.os=w.os
 tape:w'.tape=w.tape
 output:w'.output=w.output
 size:w'.heap.size=w.heap.size
 block:∀k,k∉Ds->w'.heap[k]?=w.heap[k]?
theorem uw{fn:Func}{tmps:Array ih}{R:jU->hQ->Prop}{c:FrameMode}(d:c≠.run):∀(Ds:List Nat) (W:hQ),Ds.Nodup->(∀D∈Ds,W.heap[D]?=T (.deferred (T [])))->
 (∀b,L2 Ds W b->LeavesIn Fence.wide 0 P fn tmps R [] c b)->LeavesInM Fence.wide 0 P fn tmps R (marksOf Ds) c W
 |[],W,_,_,h=>h W ⟨rfl,rfl,rfl,rfl,λ_ _=>rfl⟩
 |D::Ds,W,f,g,h=>by
  have j:=g D (oj ..);refine⟨d,.inl ⟨D,_,rfl,run_takeDeferred j,uw d Ds _ (jR.1 f).2 (λE i=>?_) (λb a=>h b ?_)⟩⟩
  ·have b:E≠D:=λe=>(jR.1 f).1 (e▸i)
   exact(jZ b).trans (g E (ql _ i))
  refine⟨a.os,a.tape,a.output,a.size.trans (by simp[ob]),λk hk=>?_⟩;rw[jw,not_or]at hk;exact(a.block k hk.2).trans (jZ hk.1)
end
section
attribute [local go_sem] Oper.semAt_some
def VIt(N0 n₀:Nat)(l:List Val)(xs:List (Nat×Val))(W:hQ):Prop:=
 N0<=W.heap.size/\(∃r,l=xs.map (·.2)++r)/\∀a x,xs=a++[x]->x.2.k=3/\n₀<=x.1/\RdV N0 W x.1 x.2.l
theorem wB{B0 N0 n₀:Nat}(h:N0<=B0)(l:List Val):lU B0 (VIt N0 n₀ l):=by
 rintro xs n B ⟨g,i,j⟩ c;refine⟨js g c.size,i,λm x e=>?_⟩;obtain⟨a,b,d⟩:=j m x e;refine⟨a,b,d.keep ?_ (λk f=>c.low Y Y)⟩;obtain⟨p,k,o,f,-⟩:=d;exact(c.cells f).trans f.symm
theorem ax.atI{D:Nat->Prop}{w:hQ}:∀{l:List Val} {a:List ih} {i:Nat} {x:Val},ax D w l a->l[i]?=T x->∃b,a[i]?=T b/\ao D w x b
 |[],a,i,x,h,c=>by simp at c
 |y::l,a,i,x,h,c=>by
  rw[ax]at h;obtain⟨b,k,rfl,d,f⟩:=h
  rcases i with _|i
  ·have e:y=x:=by simpa using c
   subst e;exact⟨b,rfl,d⟩
  obtain⟨e,g,j⟩:=f.atI (i:=i) (by simpa using c);exact⟨e,by simpa using g,j⟩
theorem uH{N0 n₀ m₀:Nat}(o:N0<=n₀)(l:List Val)(hl:l.length<=1000000)(B:Nat)(M:ih)(w:hQ)(q:n₀<=w.heap.size)(a1:m₀<=w.heap.size)(h:w.heap[B]?=T (hK #[M] 41 (0,0)))(s:ao (·<N0) w (vL l) M):
 zy ja 148 #[ji (T ⟨B,0,hF⟩)] (λx:Nat×Val=>#[ji (T ⟨x.1,0,hF⟩)]) n₀
  (λxs=>xs.map (·.2)=l/\∀v∈l,v.k=3) (λd P=>P=bD/\∃v r,l=d.map (·.2)++v::r/\v.k≠3) (VIt N0 m₀ l) w:=by
 intro lp Pn Jp W f r y z;have C:=(je.1 h).1;have j:=(f.block B C).trans h;have Q:ao (·<N0) W (vL l) M:=ao.keep (λg (R:g<N0)=>f.block g Y) _ _ s;have a4:n₀<=W.heap.size:=js q f.size;have a5:m₀<=W.heap.size:=js a1 f.size;unfold vL at Q;rw[ao]at Q;obtain⟨us,k,t⟩:=Q;obtain⟨-,p,c,rfl,E,F,e⟩:=id k;obtain⟨b,m⟩:=J l.length;rw[<-m]at k j e E hl;have c0:=cell_of (i:=0) j rfl;have U0:=O e;have HV:=O t;have U6:=O m;have u:=O o;have HJ:=O r;have D:=O y;have H0:=O z;clear h s q e t m r y z j k o f E F C;refine(qg (n:=0)).1 ?_;refine callsIn_of_wp func148 rfl trivial ?_ rfl;simp only[ntmps148,jC,kn,qm,Nat.reduceAdd,Nat.reduceSub,qn,qo,qs,qt,j6,jO]
 gi_wp2_with fail
 gi_loopw [8] (λs wr=>W.heap.size<=wr.heap.size/\∃(i:Nat) (d:List (Nat×Val)),s=I N i/\i<=b/\A (d.map (·.2)=l.take i)/\A (∀v∈l.take i,v.k=3)/\A (jb n₀ W wr)/\A (Pn d wr)) (λs _=>(b-intOf s).toNat)
 case atStart=>exact⟨jd _,0,[],rfl,by omega,O rfl,O (λv h=>by simp at h),O (oi _ _),H0⟩
 obtain⟨ba,i,d,rfl,hi,S,HK,C,U⟩:=hrel
 by_cases a2:i<b
 case neg=>
  obtain rfl:b=i:=Y;have hd:decide ((b:Int)<(b:Int))=false:=by simp
  have PX:decide (b<b)=false:=by simp
  have f:A (l.take b=l):=O (qu (by rw[U6];exact jd _));clear D c0
  gi_wp2
  refine bodyPost_end (results_none rfl _ _ _) rfl ?_;exact .inl ⟨⟨_,rfl⟩,d,⟨by rw[S,f],λv h=>HK v (by rw[f];exact h)⟩,U⟩
 have hd:=ap ((i:Int)<(b:Int));have PX:=ap (i<b);obtain⟨g,o,rfl,R,e⟩:=U0 Y;have y:i<l.length:=by rw[<-U6];exact a2
 obtain⟨x,s⟩:=J (l[i]);have z:l[i]?=T x:=by rw[s];exact j0 y
 obtain⟨xu,K,E⟩:=ax.atI HV z;obtain⟨f,k,rfl⟩:=E.form;have r:∀j v,(ee x (hH f x.l.length k))[j]?=T v->j<4->wr.cell? ⟨g,o+(i*4+j),hF⟩=T v:=λj v hj h4=>by
  have m:=e (i*4+j) v ((nY l us i j x _ z K h4).trans hj);exact(bz (a:=⟨g,o+(i*4+j),hF⟩) (C.block g (aw u))).trans m
 have V:=r 0 _ rfl G;have X:=r 1 _ rfl G;have d2:=r 2 _ rfl G;have d3:=r 3 _ rfl G;have aa:A (ao (·<N0) wr x (hH f x.l.length k)):=O (ao.keep (λg (R:g<N0)=>C.block g (aw u)) _ _ E);have Tf:A (l.take (i+1)=l.take i++[x]):=O (by rw[s];exact List.take_succ_eq_append_getElem y);have a3:A (l=l.take i++x::l.drop (i+1)):=O (by rw[s];simp);obtain⟨m,F⟩:=J x.k;obtain⟨xn,TT⟩:=J x.n;obtain⟨xs,QL⟩:=J x.s;obtain⟨q,H⟩:=J x.l.length;rw[<-F]at V;rw[<-TT]at X;rw[<-QL]at d2;rw[<-H]at d3 aa;have bb:=O H;have ad:=O F;simp only[<-Nat.add_assoc,Nat.add_zero]at V X d2 d3;clear r e z K E s F TT QL H y;have e:=af wr (hK #[I N m,I N xn,jv xs,hH f q k] 43);have s:=jo wr (hK #[I N m,I N xn,jv xs,hH f q k] 43);obtain⟨E,F⟩:=J (wr.alloc (hK #[I N m,I N xn,jv xs,hH f q k] 43));obtain⟨y,H⟩:=J wr.heap.size;rw[<-F]at e s;rw[<-H]at s;have e3:=cell_of (i:=3) s rfl;have e0:=cell_of (i:=0) s rfl;have PV:=O (HJ _ _ _ U.out (dj.ofBelow (B0:=W.heap.size) e));have OZ:=O (C.trans (e.mono Y));have al:A (ao (·<N0) E x (hH f q k)):=O (ao.keep (λg (R:g<N0)=>e.block g (aw u)) _ _ aa.out);have K:=O F;have r:=O H;have au:E.heap.size=y+1:=by rw[F,H];simp
 have z:=O au;clear e s F H au U C aa
 by_cases s:m=3
 ·have t1:(m !=3)=false:=by simpa using s
  have QG:=O s;clear s;have F:=af E (hK #[hH f q k] 150);have H:=RdV.new (N0:=N0) (l:=x.l) (x:=x) rfl al (by have:=z.out;have:=u.out;have:=r.out;omega);obtain⟨W2,C⟩:=J (E.alloc (hK #[hH f q k] 150));rw[<-C]at F;rw[<-C,z]at H;have QQ:=O (HJ _ _ _ PV.out (dj.ofBelow (B0:=W.heap.size) F));have O4:=O (OZ.trans (F.mono (dP z r)));have U:W2.heap.size=y+2:=by rw[C];simp[z.out]
  have P8:A (∀v∈l.take (i+1),v.k=3):=O (by
   intro v t;rw[Tf]at t
   rcases kw.1 t with h|h
   ·exact HK v h
   have:v=x:=by simpa using h
   rw[this,<-ad];exact QG)
  have SL:A ((d++[(y+1,x)]).map (·.2)=l.take (i+1)):=O (by rw[jS,S,Tf];rfl);have au:=D d (y+1,x) W2 QQ (by
   refine⟨by rw[U];have:=u.out;have:=r.out;omega,⟨l.drop (i+1),by rw[SL,List.take_append_drop]⟩,λaa x' e=>?_⟩;obtain⟨-,h⟩:=List.append_inj' e rfl;injection h with h
   rw[<-h];exact⟨by rw[<-ad];exact QG,by show m₀<=y+1;have:=r.out;omega,H⟩)
  obtain⟨fn,tmps,assign,body,hy,h⟩:=au;have HR:=O h;have aa:=O C;have Px:=O U;clear F H C U h D PV OZ al
  gi_upto_region 3 with fail
  rw[<-K,<-r]
  gi_upto_region 6 with fail
  rw[<-aa,z];clear K aa V X d2 d3 e3 e0
  gi_wp2_with fail
  refine⟨rfl,HR.mono ?_⟩;rintro e H (⟨rfl,h,C⟩|⟨P,rfl,U⟩)
  ·have WR:=O h
   have F:=O (O4.trans C);have aa:W.heap.size<=H.heap.size:=F.size;clear HR h C QQ O4 hy
   gi_wp2_with fail
   exact⟨⟨aa,i+1,_,by go_num,by omega,SL,P8,F,WR⟩,by simp only[intOf];omega⟩
  exact⟨rfl,.inr ⟨P,rfl,.inl U⟩⟩
 have t1:(m !=3)=true:=by simpa using s
 have e:A (x.k≠3):=O (by rw[<-ad];exact s);clear s
 gi_upto_region 3 with fail
 rw[<-K,<-r];clear K D U0 HV
 gi_wp2_with fail
 exact⟨rfl,.inr ⟨_,rfl,.inr ⟨d,⟨rfl,x,l.drop (i+1),by rw[S];exact a3,e⟩,PV⟩⟩⟩
end
theorem Bq{P:jH}{c:jE}{b:jA->Act->hQ->Prop}{a:Act}{w w':hQ}(e:w'=w)(h:c.wp P b a w'):c.wp P b a w:=e▸h
theorem fX{P:jH}{fn:FuncId}{x y:jE}{b:jA->Act->hQ->Prop}{a:Act}{w:hQ}(h:∀K:Act->hQ->Prop,(∀a w,WpF P fn y b a w->K a w)->WpF P fn x (Exit.then K b) a w):WpF P fn (.seq x y) b a w:=
 Fy (h _ λ_ _ h=>h)
def mZ(cs:Array ih):Nat->List ih->Array ih
 |_,[]=>cs
 |o,v::a=>mZ (cs.setIfInBounds o v) (o+1) a
theorem wS:∀(d a c b:List ih),c.length=d.length->mZ (a++c++b).toArray a.length d=(a++d++b).toArray
 |[],a,c,b,h=>by
  obtain rfl:c=[]:=List.eq_nil_of_length_eq_zero h
  rfl
 |v::d,a,[],b,h=>by simp at h
 |v::d,a,x::c,b,h=>by
  have e:(a++x::c++b).toArray.setIfInBounds a.length v=((a++[v])++c++b).toArray:=by
   apply j7
   rw[j8];show ol (a++x::c++b) a.length v=_;rw[lo,j9 _ _ (jd _),Nat.sub_self];simp
  rw[mZ,e];have f:=wS d (a++[v]) c b (by simpa using h);rw[jF]at f;have g:mZ ((a++[v])++c++b).toArray (a.length+1) d=(a++[v]++d++b).toArray:=f;rw[g];simp
theorem yC{b:Nat}{t:ju}:∀(a:List ih) (o:Nat) (W:hQ) (cs:Array ih),W.heap[b]?=T (hK cs t (0,0))->(W.setCells b o a).heap[b]?=T (hK (mZ cs o a) t (0,0))
 |[],o,W,cs,h=>h
 |v::a,o,W,cs,h=>yC a (o+1) _ _ (lQ v h)
theorem Cr{b k:Nat}(hk:k≠b):∀(a:List ih) (o:Nat) (W:hQ),(W.setCells b o a).heap[k]?=W.heap[k]?
 |[],o,W=>rfl
 |v::a,o,W=>(Cr hk a (o+1) (W.setCell ⟨b,o,hF⟩ v)).trans (fp v hk)
theorem zA(b:Nat):∀(a:List ih) (o:Nat) (W:hQ),(W.setCells b o a).heap.size=W.heap.size
 |[],o,W=>rfl
 |v::a,o,W=>(zA b a (o+1) (W.setCell ⟨b,o,hF⟩ v)).trans (k6 _ _ _)
theorem sj(b:Nat):∀(a:List ih) (o:Nat) (W:hQ),(W.setCells b o a).os=W.os/\(W.setCells b o a).tape=W.tape/\(W.setCells b o a).output=W.output
 |[],o,W=>⟨rfl,rfl,rfl⟩
 |v::a,o,W=>sj b a (o+1) (W.setCell ⟨b,o,hF⟩ v)
theorem EJ(R n:Nat)(a:List ih)(o:Nat)(W:hQ):aD R n W (W.setCells R o a):=
 ⟨(sj R a o W).1,(sj R a o W).2.1,(sj R a o W).2.2,jD (zA _ _ _ _).symm,λk _ hk=>Cr hk a o W⟩
theorem eO(c:Cmt)(q:CQ)(a:c.parent.length=32)(b:c.confirm.length=32):(aj c q).toArray.size=73:=by rw[jC,eA c q a b]
theorem LD(c:Cmt)(q:CQ)(n:Int):(aj c q).toArray.setIfInBounds 0 (I N n)=(aj {c with folder:=n} q).toArray:=by simp[aj]
theorem Gc(c:Cmt)(q:CQ)(n:Int):(aj c q).toArray.setIfInBounds 1 (I N n)=(aj {c with epoch:=n} q).toArray:=by simp[aj]
theorem MX(c:Cmt)(q:CQ)(k:LBy)(a:c.parent.length=32)(b:k.length=32):mZ (aj c q).toArray 2 (k.map v8)=(aj {c with parent:=k} q).toArray:=by
 have h:=wS (k.map v8) [I N c.folder,I N c.epoch] (c.parent.map v8) (I N c.author::q.vc::q.vp::q.vb::q.vw::(c.confirm.map v8++[I N c.r,I N c.s])) (by simp[a,b]);exact h
theorem Ni(c:Cmt)(q:CQ)(n:Int)(a:c.parent.length=32):(aj c q).toArray.setIfInBounds 34 (I N n)=(aj {c with author:=n} q).toArray:=by
 apply j7
 rw[j8];unfold aj;have b:(c.parent.map v8).length=32:=by rw[jr];exact a
 show ol (_ ::_ ::(c.parent.map v8++_)) 34 _ =_;rw[jV,jV,j9 _ _ Y,b]
 rfl
theorem Ke(c:Cmt)(a b d e x:ih)(f:c.parent.length=32):(aj c ⟨a,b,d,e⟩).toArray.setIfInBounds 35 x=(aj c ⟨x,b,d,e⟩).toArray:=by
 apply j7
 rw[j8];unfold aj;have g:(c.parent.map v8).length=32:=by rw[jr];exact f
 show ol (_ ::_ ::(c.parent.map v8++_)) 35 x=_;rw[jV,jV,j9 _ _ Y,g]
 rfl
theorem Ob(c:Cmt)(q:CQ)(k:LBy)(a:c.parent.length=32)(b:c.confirm.length=32)(d:k.length=32):mZ (aj c q).toArray 39 (k.map v8)=(aj {c with confirm:=k} q).toArray:=by
 have e:∀x:LBy,aj {c with confirm:=x} q=(I N c.folder::I N c.epoch::(c.parent.map v8++[I N c.author,q.vc,q.vp,q.vb,q.vw]))++x.map v8++[I N c.r,I N c.s]:=λx=>by simp[aj]
 have h:=wS (k.map v8) (I N c.folder::I N c.epoch::(c.parent.map v8++[I N c.author,q.vc,q.vp,q.vb,q.vw])) (c.confirm.map v8) [I N c.r,I N c.s] (by simp[b,d]);have f:(ic .i64 c.folder::I N c.epoch::(c.parent.map v8++[I N c.author,q.vc,q.vp,q.vb,q.vw])).length=39:=by simp[a]
 rw[f,<-e,<-e]at h;exact h
theorem MR(c:Cmt)(q:CQ)(n:Int)(b:c.parent.length=32)(d:c.confirm.length=32):(aj c q).toArray.setIfInBounds 71 (I N n)=(aj {c with r:=n} q).toArray:=by
 apply j7
 rw[j8];have e:∀x:Int,(aj {c with r:=x} q).toArray.toList=(I N c.folder::I N c.epoch::(c.parent.map v8++([I N c.author,q.vc,q.vp,q.vb,q.vw]++c.confirm.map v8)))++[I N x,I N c.s]:=λx=>by simp[aj]
 have a:(ic .i64 c.folder::I N c.epoch::(c.parent.map v8++([I N c.author,q.vc,q.vp,q.vb,q.vw]++c.confirm.map v8))).length=71:=by simp[b,d]
 rw[e n,show(aj c q).toArray.toList=_ from e c.r,j9 _ _ (by rw[a];exact jd _),a]
 rfl
theorem Nw(c:Cmt)(q:CQ)(n:Int)(b:c.parent.length=32)(d:c.confirm.length=32):(aj c q).toArray.setIfInBounds 72 (I N n)=(aj {c with s:=n} q).toArray:=by
 apply j7
 rw[j8];have e:∀x:Int,(aj {c with s:=x} q).toArray.toList=(I N c.folder::I N c.epoch::(c.parent.map v8++([I N c.author,q.vc,q.vp,q.vb,q.vw]++c.confirm.map v8)))++[I N c.r,I N x]:=λx=>by simp[aj]
 have a:(ic .i64 c.folder::I N c.epoch::(c.parent.map v8++([I N c.author,q.vc,q.vp,q.vb,q.vw]++c.confirm.map v8))).length=71:=by simp[b,d]
 rw[e n,show(aj c q).toArray.toList=_ from e c.s,j9 _ _ (by rw[a];decide),a]
 rfl
theorem Ln(c:Cmt)(a b d e:ih)(f:c.parent.length=32)(g:c.confirm.length=32):(aj c ⟨a,b,d,e⟩).toArray[35]?=T a:=by
 have h:=eK c ⟨a,b,d,e⟩ f g
 simpa using h.2.2.2.1
theorem da.laterX{M R X:Nat}{t e:ju}{sz:Nat}{d:ih->Array ih}{w0 wr i:hQ}{n:Nat}{j:ih}{xs:List ih}(h:da M R t e sz d w0 wr n j xs)(w:R<M)(x:M<=X){cs:Array ih}{l:ju}{f:Nat×Nat}
 (m:wr.heap[X]?=T (hK cs l f)) (o:l≠e) (a:aD X wr.heap.size wr i):da M R t e sz d w0 i n j xs:=by
 have p:=(je.1 h.box).1;refine⟨(a.block R p Y).trans h.box,?_,?_,js h.sz' a.size⟩
 ·refine⟨h.own.1,?_⟩
  rcases h.own.2 with c|⟨g,k,q,r,c,b,s⟩
  ·exact .inl c
  refine .inr ⟨g,k,q,r,c,(a.block g (je.1 b).1 (λu=>?_)).trans b,s⟩;rw[u,m]at b;injection b with b
  injection b with b v y
  exact o v
 exact h.but.trans ⟨a.os,a.tape,a.output,a.size,λk hk b=>a.block k (jc hk h.sz') Y⟩ (jd _)
theorem da.rolls{B0 M R:Nat}{t e:ju}{sz:Nat}{c:ih->Array ih}{w0 wr d:hQ}{n:Nat}{f:ih}{xs:List ih}(h:da M R t e sz c w0 wr n f xs)(o:M<=B0)(a:dj B0 wr d):da M R t e sz c w0 d n f xs:=by
 refine⟨a.cells h.box,?_,?_,js h.sz' a.size⟩
 ·refine⟨h.own.1,?_⟩
  rcases h.own.2 with b|⟨g,i,j,k,b,l,m⟩
  ·exact .inl b
  exact .inr ⟨g,i,j,k,b,a.cells l,m⟩
 exact h.but.trans ⟨a.os,a.tape,a.output,a.size,λk hk b=>a.low (jc hk h.sz') Y⟩ (jd _)
theorem dj.cell{B0:Nat}{d B:hQ}(h:dj B0 d B){a:Addr}{v:ih}(b:d.cell? a=T v):B.cell? a=T v:=by
 unfold oo at b⊢
 cases ho:d.heap[a.block]? with
 |none=>rw[ho]at b;simp at b
 |some o=>
  cases o with
  |cells c t f=>rw[h.cells ho];rw[ho]at b;exact b
  |_=>rw[ho]at b;simp at b
theorem ah.rolls{D:Nat->Prop}{B0:Nat}{w w':hQ}{v:ih}{sz n:Nat}{xs:List ih}(h:ah D w v sz n xs)(a:dj B0 w w'):ah D w' v sz n xs:=by
 obtain⟨b,p,c,d,f,i,k⟩:=h;refine⟨b,p,c,d,f,i,λl=>?_⟩;obtain⟨g,o,e,m,q⟩:=k l;exact⟨g,o,e,m,λj r s=>a.cell (q j r s)⟩
theorem bH.rolls{D:Nat->Prop}{B0:Nat}{w w':hQ}(d:dj B0 w w'):∀{c:List (LBy)} {a:List ih},bH D w c a->bH D w' c a
 |[],a,h=>h
 |b::c,a,⟨e,f,g,i,j⟩=>⟨e,f,g,i.rolls d,j.rolls d⟩
theorem ah.laterX{D:Nat->Prop}{w w':hQ}{X:Nat}{p:Option Addr}{m c:Nat}{q:ju}{f:Nat×Nat}(r:w.heap[X]?=T (hK #[hH p m c] q f))(hk:∀k,D k->k≠X->w'.heap[k]?=w.heap[k]?)
 {v:ih} {n:Nat} {l:LBy} (h:ah D w v 1 n (l.map v8)):ah D w' v 1 n (l.map v8):=by
 obtain⟨d,s,t,u,x,y,z⟩:=h;refine⟨d,s,t,u,x,y,λB=>?_⟩;obtain⟨g,o,e,i,k⟩:=z B;have C:0<l.length:=by rw[jr]at d;omega
 have E:g≠X:=λF=>by
  have b:=k 0 (v8 l[0]) (by rw[ow,j0 C];rfl);rw[F]at b;unfold oo at b;simp only[r]at b
  rcases o with _|o
  ·simp[v8]at b
  simp at b
 exact⟨g,o,e,i,λj b H=>(bz (a:=⟨g,o+j,hF⟩) (hk g i E)).trans (k j b H)⟩
theorem bH.laterX{D:Nat->Prop}{w w':hQ}{X:Nat}{p:Option Addr}{m c:Nat}{g:ju}{f:Nat×Nat}(e:w.heap[X]?=T (hK #[hH p m c] g f))(hk:∀k,D k->k≠X->w'.heap[k]?=w.heap[k]?):∀{d:List (LBy)} {a:List ih},bH D w d a->bH D w' d a
 |[],a,h=>h
 |b::d,a,⟨i,j,k,l,n⟩=>⟨i,j,k,l.laterX e hk,n.laterX e hk⟩
theorem bX.laterX{α:Type}{M R X:Nat}{t e:ju}{k:Nat}{f:α->ih->List ih}{body:α->LBy}{d:ih->Array ih}{w0 wr i:hQ}{n:Nat}{j:ih}{l:List α}{o:List ih}(h:bX M R t e k f body d w0 wr n j l o)(s:R<M)(u:M<=X)
 {p:Option Addr} {m c:Nat} {q:ju} {fr:Nat×Nat} (r:wr.heap[X]?=T (hK #[hH p m c] q fr)) (v:q≠e) (b:aD X wr.heap.size wr i):bX M R t e k f body d w0 i n j l o:=
 ⟨h.row.laterX s u r v b,(h.kids.laterX r (λg a w=>b.block g a.2.1 w)).mono λg a=>⟨a.1,jc a.2.1 b.size,a.2.2⟩⟩
theorem bX.rolls{α:Type}{B0 M R:Nat}{t e:ju}{k:Nat}{f:α->ih->List ih}{body:α->LBy}{c:ih->Array ih}{w0 wr d:hQ}{n:Nat}{i:ih}{l:List α}{j:List ih}(h:bX M R t e k f body c w0 wr n i l j)(m:M<=B0)(a:dj B0 wr d):bX M R t e k f body c w0 d n i l j:=
 ⟨h.row.rolls m a,(h.kids.rolls a).mono λg b=>⟨b.1,jc b.2.1 a.size,b.2.2⟩⟩
theorem gk{B0 X:Nat}{a W:hQ}{cs:Array ih}{t:ju}{f:Nat×Nat}(c:a.heap[X]?=T (hK cs t f))(b:aD X a.heap.size a W):j3 B0 a W:=
 ⟨b.size,λk o _ hk d=>(b.block k (je.1 hk).1 (λe=>by rw[e,c]at hk;cases hk;cases d)).trans hk⟩
theorem wg{B0 M R i:Nat}{t e:ju}{sz n m:Nat}{q:ih->Array ih}{w0 b c:hQ}{d f:ih}{xs r:List ih}(h:da M R t e sz q w0 b n d xs)(j:aV M e sz b c d f m r):j3 B0 b (c.setCell ⟨R,i,hF⟩ f):=by
 refine⟨by rw[k6];exact j.grown.size,λk o _ hk l=>?_⟩;have s:=(je.1 hk).1;refine(fp _ (λe=>by rw[e,h.box]at hk;cases hk;cases l)).trans ((j.grown.block k s (λa=>?_)).trans hk)
 rcases h.own.2 with p|⟨g,w,x,u,p,v,y⟩
 ·rw[p.1]at a;cases a
 rw[u]at a;injection a with a
 rw[a,v]at hk;cases hk;cases l
theorem vM(B0:Nat)(a:hQ)(o:Obj):j3 B0 a (a.alloc o):=⟨by simp,λk b _ hk _=>(n0 _ _ _ (je.1 hk).1).trans hk⟩
theorem rE{α:Type}{f:List Val->Option α}:∀{l:List Val} {b:List α} {v:Val} {a:α},bF f l=T b->v.k=3->f v.l=T a->bF f (l++[v])=T (b++[a])
 |[],b,v,a,h,hk,c=>by
  rw[bF]at h;injection h with h
  subst h;show bF f [v]=_;rw[bF,if_pos hk,c,jk,bF]
  rfl
 |x::l,b,v,a,h,hk,c=>by
  rw[bF]at h
  by_cases d:x.k=3
  ·rw[if_pos d]at h
   cases hfx:f x.l with
   |none=>rw[hfx]at h;cases h
   |some y=>
    rw[hfx,jk]at h
    cases hr:bF f l with
    |none=>rw[hr]at h;cases h
    |some e=>
     rw[hr,jP]at h;injection h with h
     rw[jO,bF,if_pos d,hfx,jk,rE hr hk c,<-h]
     rfl
  rw[if_neg d]at h;cases h
theorem mw{α:Type}{f:List Val->Option α}{v:Val}{r:List Val}(a:v.k≠3\/f v.l=hF):∀{l:List Val} {b:List α},bF f l=T b->bF f (l++v::r)=hF
 |[],b,h=>by
  show bF f (v::r)=hF;rw[bF]
  rcases a with a|a
  ·rw[if_neg a]
  split
  ·rw[a];rfl
  rfl
 |x::l,b,h=>by
  rw[bF]at h
  by_cases c:x.k=3
  ·rw[if_pos c]at h
   cases hfx:f x.l with
   |none=>rw[hfx]at h;cases h
   |some y=>
    rw[hfx,jk]at h
    cases hr:bF f l with
    |none=>rw[hr]at h;cases h
    |some d=>
     rw[jO,bF,if_pos c,hfx,jk,mw a hr]
     rfl
  rw[if_neg c]at h;cases h
theorem se{α:Type}{f:List Val->Option α}:∀{l:List Val} {a:List α},bF f l=T a->a.length=l.length
 |[],a,h=>by
  rw[bF]at h;injection h with h
  rw[<-h];rfl
 |x::l,a,h=>by
  rw[bF]at h
  by_cases b:x.k=3
  ·rw[if_pos b]at h
   cases hfx:f x.l with
   |none=>rw[hfx]at h;cases h
   |some y=>
    rw[hfx,jk]at h
    cases hr:bF f l with
    |none=>rw[hr]at h;cases h
    |some c=>
     rw[hr,jP]at h;injection h with h
     rw[<-h];simp[se hr]
  rw[if_neg b]at h;cases h
theorem Lp(v:Val)(l:List Val):(rI (v::l)=hF->v.k≠1)/\∀r,rI (v::l)=T r->v.k=1/\r=(v.n,l):=by
 have e:rI (v::l)=(if v.k=1 then T (v,l)else hF).map λr=>(r.1.n,r.2):=rfl
 rw[e]
 by_cases hk:v.k=1
 ·rw[if_pos hk]
  exact⟨(λh=>by cases h),λr h=>⟨hk,by injection h with h;exact h.symm⟩⟩
 rw[if_neg hk];exact⟨λ_=>hk,(λr h=>by cases h)⟩
theorem B3:∀{l:List Val} {a:List Int},cP l=T a->a.length=l.length
 |[],a,h=>by
  rw[cP]at h;injection h with h
  rw[<-h];rfl
 |v::l,a,h=>by
  rw[cP]at h
  by_cases hk:v.k=1
  ·rw[if_pos hk]at h
   cases hr:cP l with
   |none=>rw[hr]at h;cases h
   |some b=>
    rw[hr,jP]at h;injection h with h
    rw[<-h];simp[B3 hr]
  rw[if_neg hk]at h;cases h
theorem D7:∀{l:List Val} {a:List Int} {v:Val},cP l=T a->v.k=1->cP (l++[v])=T (a++[v.n])
 |[],a,v,h,hk=>by
  rw[cP]at h;injection h with h
  subst h;show cP [v]=_;rw[cP,if_pos hk,cP]
  rfl
 |x::l,a,v,h,hk=>by
  rw[cP]at h
  by_cases b:x.k=1
  ·rw[if_pos b]at h
   cases hr:cP l with
   |none=>rw[hr]at h;cases h
   |some c=>
    rw[hr,jP]at h;injection h with h
    rw[jO,cP,if_pos b,D7 hr hk,<-h]
    rfl
  rw[if_neg b]at h;cases h
theorem yI{v:Val}{r:List Val}(c:v.k≠1):∀{l:List Val} {a:List Int},cP l=T a->cP (l++v::r)=hF
 |[],a,h=>by
  show cP (v::r)=hF;rw[cP,if_neg c]
 |x::l,a,h=>by
  rw[cP]at h
  by_cases b:x.k=1
  ·rw[if_pos b]at h
   cases hr:cP l with
   |none=>rw[hr]at h;cases h
   |some d=>
    rw[jO,cP,if_pos b,yI c hr]
    rfl
  rw[if_neg b]at h;cases h
def uV(P:Nat)(w:hQ):Nat:=match w.cell? ⟨P,0,hF⟩with|some (hH _ n _)=>n|_=>0
theorem D8{N0 P:Nat}{w:hQ}{l:List Val}(h:RdV N0 w P l):uV P w=l.length:=by
 obtain⟨p,c,b,a,-,-⟩:=h;have:w.cell? ⟨P,0,hF⟩=T (hH p l.length c):=cell_of a rfl;unfold uV;rw[this]
theorem gP{C X M:Nat}{a b c:hQ}(h:aD C M a b)(k:aD X b.heap.size b c)(d:M<=X)(e:M<=b.heap.size):aD C M a c:=
 h.trans ⟨k.os,k.tape,k.output,k.size,λi f _=>k.block i Y Y⟩ (jd _)
theorem tT{C M d:Nat}{a b c:hQ}(h:aD C M a b)(k:aD C M a c)(e:b.heap.size<=c.heap.size)(f:d<=C)(g:d<=M):jb d b c:=
 ⟨k.os.trans h.os.symm,k.tape.trans h.tape.symm,k.output.trans h.output.symm,e,λi j=>(k.block i Y Y).trans (h.block i Y Y).symm⟩
theorem Hz:(ja.info? 59).map (λi=>(i.zero,i.size,i.bytes))=T (T (hZ #[I N 0,I N 0,I N 0,I N 0,I N 0]),5,40):=by kernel_rfl
theorem Gj{w:hQ}{o:jy}{a:Act}{K:Act->hQ->Prop}{e:jA->Act->hQ->Prop}(s x:km)
 (f:o.op=.call {callee:=.builtin .append,args:=#[s,x],argTypes:=#[24,24]})
 (B:Nat) (v:ih) (n:Nat) (xs:List ih) (g:a.eval s=v) (i:w.ownsRow B 59 5 v n xs) (b:ih) (m:Nat) (c:List ih) (j:a.eval x=b) (k:bW w b 5 m c) (l:∀b∈c,b.oneCell'=true)
 (E:n+m<=2900000) (p:B<=w.heap.size) (h:∀d w',aV B 59 5 w w' v d (n+m) (xs++c)->K (a.put o.dst d) w'):o.wp ja a w K e:=by
 obtain⟨q,r,t,u,y⟩:=lz Hz;exact lN s x 24 f B 59 q _ 5 40 underlying24 r t u y rfl G v n xs g i b m c j k l (by unfold maxLen;omega) Y p
  λd w' z C D=>h d w' (ly z C D)
section
attribute [local go_sem] Oper.semAt_some
def SmL(l:List Val):Prop:=∃f,(∀x∈l,wfV f x)/\(encs l).length<=1000000
theorem SmL.len{l:List Val}(h:SmL l):l.length<=1000000:=by
 obtain⟨f,-,a⟩:=h;have:=nS l;omega
theorem SmL.tail{x:Val}{l:List Val}(h:SmL (x::l)):SmL l:=by
 obtain⟨f,a,b⟩:=h;rw[encs,jF]at b;exact⟨f,λy c=>a y (ql _ c),by omega⟩
theorem SmL.mem{x:Val}{l:List Val}(h:SmL l)(d:x∈l):SmL x.l:=by
 obtain⟨f,i,o⟩:=h;have c:=i x d;have j:=uW d;obtain⟨k,n,s,a⟩:=x
 by_cases hk:k=3
 ·subst hk
  obtain⟨g,-,e,-,b⟩:=nR c rfl;refine⟨g,b,?_⟩;have m:enc (.mk 3 n s a)=3#8::(aX a.length++encs a):=by rw[enc,if_neg G,if_neg G]
  rw[m,kn,jF]at j;show(encs a).length<=_;omega
 have e:a=[]:=by
  cases f<;>rw[wfV]at c<;>rcases c with⟨-,-,-,-,b⟩|⟨-,-,-,b⟩|⟨b,-⟩<;>first|exact b|exact absurd b hk
 subst e;exact⟨0,(λy b=>by cases b),by show(encs []).length<=_;simp[encs]⟩
theorem yX{l:List Val}{r:Int×List Val}(h:rI l=T r):∃x,l=x::r.2:=by
 unfold rI at h;obtain⟨q,a,b⟩:=fi h;rw[<-b];exact⟨q.1,(kU a).1⟩
theorem zY{l:List Val}{r:ByteArray×List Val}(h:rT l=T r):∃x,l=x::r.2:=by
 unfold rT at h;obtain⟨q,a,b⟩:=fi h;rw[<-b];exact⟨q.1,(kU a).1⟩
theorem J1{l:List Val}{r:List Val×List Val}(h:rL l=T r):∃x,l=x::r.2/\x.l=r.1:=by
 unfold rL at h;obtain⟨q,a,b⟩:=fi h;rw[<-b];exact⟨q.1,(kU a).1,rfl⟩
theorem tM{l:List Val}{r:LBy×List Val}(h:rD l=T r):(∃x,l=x::r.2)/\r.1.length=32:=by
 unfold rD at h;obtain⟨q,b,a⟩:=cU h
 split at a
 ·injection a with a
  rw[<-a];exact⟨zY b,by rw[et];assumption⟩
 cases a
theorem Ir{l:List Val}{r:(Int×LBy)×List Val}(h:rW l=T r):∃x y,l=x::y::r.2:=by
 unfold rW at h;obtain⟨q,a,b⟩:=cU h;obtain⟨p,c,d⟩:=fi b;obtain⟨x,e⟩:=yX a;obtain⟨y,f⟩:=zY c;rw[<-d];exact⟨x,y,by rw[e,f]⟩
theorem SmL.rI{l:List Val}{r:Int×List Val}(h:SmL l)(e:Go.Proofs.YtpfafeammikibaaGreatDoor.rI l=T r):SmL r.2:=by obtain⟨x,rfl⟩:=yX e;exact h.tail
theorem SmL.rD{l:List Val}{r:LBy×List Val}(h:SmL l)(e:Go.Proofs.YtpfafeammikibaaGreatDoor.rD l=T r):SmL r.2:=by obtain⟨x,rfl⟩:=(tM e).1;exact h.tail
theorem SmL.rL{l:List Val}{r:List Val×List Val}(h:SmL l)(e:Go.Proofs.YtpfafeammikibaaGreatDoor.rL l=T r):SmL r.1/\SmL r.2:=by
 obtain⟨x,rfl,a⟩:=J1 e;exact⟨by rw[<-a];exact h.mem (oj ..),h.tail⟩
theorem SmL.rW{l:List Val}{r:(Int×LBy)×List Val}(h:SmL l)(e:Go.Proofs.YtpfafeammikibaaGreatDoor.rW l=T r):SmL r.2:=by obtain⟨x,y,rfl⟩:=Ir e;exact h.tail.tail
theorem SmL.suffix{l a b:List Val}(h:SmL l)(e:l=a++b):SmL b:=by
 obtain⟨f,c,d⟩:=h;rw[e,oP,jF]at d;exact⟨f,λx g=>c x (by rw[e];exact List.mem_append_right _ g),by omega⟩
def o6(w:hQ)(o:Option Cmt)(e:jU)(w':hQ):Prop:=
 jb w w w'/\match o with
  |some c=>∃q,e=jf (hZ (aj c q).toArray)/\az (λg=>w.heap.size<=g/\g<w'.heap.size) w' c q
  |none=>e=.panicked bD
structure Kp(C R:Nat)(a b:hQ):Prop where
 os:b.os=a.os
 tape:b.tape=a.tape
 output:b.output=a.output
 size:a.heap.size<=b.heap.size
 block:∀k,k<a.heap.size->k≠C->k≠R->b.heap[k]?=a.heap[k]?
theorem Kp.ofR{C R:Nat}{a b:hQ}(h:aD R a.heap.size a b):Kp C R a b:=⟨h.os,h.tape,h.output,h.size,λk hk _ c=>h.block k hk c⟩
theorem Kp.ofC{C R:Nat}{a b:hQ}(h:aD C a.heap.size a b):Kp C R a b:=⟨h.os,h.tape,h.output,h.size,λk hk c _=>h.block k hk c⟩
theorem Kp.ofB{C R:Nat}{a b:hQ}(h:jb a a b):Kp C R a b:=⟨h.os,h.tape,h.output,h.size,λk hk _ _=>h.block k hk⟩
def Kept(C R:Nat)(c:hQ->Prop):Prop:=∀a b,c a->Kp C R a b->c b
theorem Jm{C R:Nat}{w:hQ}(d:w.heap.size<=C)(e:w.heap.size<=R):Kept C R (λx=>jb w w x):=
 λa b h k=>h.trans ⟨k.os,k.tape,k.output,k.size,λi c=>k.block i (jc c h.size) Y Y⟩
theorem ym{C R D:Nat}{ds:Option (List Deferred)}(c:D≠C)(d:D≠R):Kept C R (λx=>x.heap[D]?=T (.deferred ds)):=
 λa b h k=>(k.block D (je.1 h).1 c d).trans h
theorem yR{C R M H:Nat}{v:ih}{sz n:Nat}{xs:List ih}(c:C<M)(d:R<M):Kept C R (λx=>H<=x.heap.size/\ah (λg=>M<=g/\g<H) x v sz n xs):=
 λa b h k=>⟨js h.1 k.size,h.2.keep λg e=>k.block g Y Y Y⟩
theorem Al{α:Type}{C R M H:Nat}{v:ih}{sz n:Nat}{f:α->ih->List ih}{body:α->LBy}{l:List α}(i:C<M)(j:R<M):Kept C R (λx=>H<=x.heap.size/\∃c,ah (λg=>M<=g/\g<H) x v sz n (cB f l c)/\bH (λg=>M<=g/\g<H) x (l.map body) c):=by
 rintro a b ⟨h,c,d,e⟩ k;have hk:∀g,(M<=g/\g<H)->b.heap[g]?=a.heap[g]?:=λg m=>k.block g Y Y Y
 exact⟨js h k.size,c,d.keep hk,e.keep hk⟩
theorem Kept.and{C R:Nat}{c d:hQ->Prop}(h:Kept C R c)(f:Kept C R d):Kept C R (λx=>c x/\d x):=λa b e k=>⟨h a b e.1 k,f a b e.2 k⟩
theorem fE{w x:hQ}{Ds:List Nat}{tmps:Array ih}{ov:Option Cmt}{fd:Func}(d:ov=hF)(e:jb w w x)(f:Ds.Nodup)(c:∀D∈Ds,x.heap[D]?=T (.deferred (T []))/\w.heap.size<=D):
 LeavesInM Fence.wide 0 ja fd tmps (o6 w ov) (marksOf Ds) (.panicking bD) x:=by
 subst d;refine uw (λh=>by cases h) Ds x f (λD b=>(c D b).1) (λg a=>?_);exact⟨e.trans ⟨a.os,a.tape,a.output,jD a.size.symm,λk hk=>a.block k (λb=>by have:=(c k b).2;omega)⟩,rfl⟩
theorem ah.cellsOnly{D:Nat->Prop}{w:hQ}{v:ih}{sz n:Nat}{xs:List ih}(h:ah D w v sz n xs)(j:0<sz):ah (λg=>D g/\∃c t f,w.heap[g]?=T (hK c t f)) w v sz n xs:=by
 obtain⟨b,p,c,k,l,m,q⟩:=h;refine⟨b,p,c,k,l,m,λd=>?_⟩;obtain⟨g,o,e,r,i⟩:=q d;refine⟨g,o,e,⟨r,?_⟩,i⟩;have s:0<xs.length:=by rw[b];exact Nat.mul_pos d j
 have a:=i 0 xs[0] (j0 s);unfold oo at a
 cases ho:w.heap[g]? with
 |none=>simp[ho]at a
 |some u=>
  cases u with
  |cells c t f=>exact⟨c,t,f,rfl⟩
  |_=>simp[ho]at a
theorem bH.cellsOnly{D:Nat->Prop}{w:hQ}:∀{d:List (LBy)} {a:List ih},bH D w d a->bH (λg=>D g/\∃c t f,w.heap[g]?=T (hK c t f)) w d a
 |[],a,h=>h
 |b::d,a,⟨c,e,f,g,i⟩=>⟨c,e,f,g.cellsOnly G,i.cellsOnly⟩
theorem az.cellsOnly{D:Nat->Prop}{w:hQ}{c:Cmt}{q:CQ}(h:az D w c q):az (λg=>D g/\∃c t f,w.heap[g]?=T (hK c t f)) w c q:=by
 obtain⟨a,b,⟨d,e,f⟩,⟨g,i,j⟩,k,l⟩:=h;exact⟨a.cellsOnly G,b.cellsOnly G,⟨d,e.cellsOnly G,f.cellsOnly⟩,⟨g,i.cellsOnly G,j.cellsOnly⟩,k,l⟩
theorem Gt{w x:hQ}{C:Nat}{Ds:List Nat}{tmps:Array ih}{ov:Option Cmt}{c:Cmt}{q:CQ}(l:ov=T c)(m:jb w w x)(n:Ds.Nodup)(e:∀D∈Ds,x.heap[D]?=T (.deferred (T []))/\w.heap.size<=D)
 (j:x.heap[C]?=T (hK (aj c q).toArray 31 (0,0))) (o:tmps.getD 2 hU=ji (T ⟨C,0,hF⟩)) (i:az (λg=>w.heap.size<=g/\g<x.heap.size) x c q):
 LeavesInM Fence.wide 0 ja Tryz.f28 tmps (o6 w ov) (marksOf Ds) .returning x:=by
 subst l;refine uw (λh=>by cases h) Ds x n (λD d=>(e D d).1) (λb a=>?_);have h:∀g,(∃c t f,x.heap[g]?=T (hK c t f))->g∉Ds:=λg ⟨c,t,f,b⟩ d=>by rw[(e g d).1]at b;cases b
 have p:=(a.block C (h C ⟨_,_,_,j⟩)).trans j;refine⟨_,results_cell_row rfl _ _ C 31 _ (0,0) _ o p jB rfl (by rw[eO c q i.plen i.clen];exact dZ),?_,q,rfl,?_⟩
 ·exact m.trans ⟨a.os,a.tape,a.output,jD a.size.symm,λk hk=>a.block k (λd=>by have:=(e k d).2;omega)⟩
 exact(i.cellsOnly.keep λg b=>a.block g (h g b.2)).mono λg b=>⟨b.1.1,by rw[a.size];exact b.1.2⟩
def MH(b:jA->Act->hQ->Prop):jA->Act->hQ->Prop
 | .normal,a,w=>b .normal a w
 | .panic c,a,w=>∀t,b (.panic c) {a with tmps:=t} w
 |_,_,_=>False
theorem Gn{P:jH}{b:Array jy}{i:jA->Act->hQ->Prop}{g:Nat}{a:Act}{w:hQ}(S:hQ->Prop)(f:Nat)(l:List (Nat×Bool))(j:P.follows .mixedOrders=true)(k:Region.noSelect b=true)
 (hk:gQ .any b f l (jM b.size false)=true) (m:l.length=b.size) (n:S w.drew) (h:fb P b (MH i) S f l a w.drew):(Code.region g b true).wp P i a w:=by
 refine wp_mono (uZ S f l j k hk m (λc a d v w h t=>?_) n h) (λe a w h=>?_)
 ·have c:=h t
  have e:({(Act.put a d v)with tmps:=t}:Act)={a with tmps:=t}:=by rw[Act.mk.injEq];exact⟨rfl,put_defers a d v⟩
  rwa [e]at c
 cases e with
 |normal=>exact h
 |panic c=>exact h a.tmps
 |ret=>exact h.elim
 |exit g=>exact h.elim
 |goto g=>exact h.elim
 |outgrown=>exact h.elim
theorem oQ(R n i:Nat)(v:ih)(W:hQ):aD R n W (W.setCell ⟨R,i,hF⟩ v):=⟨rfl,rfl,rfl,jD (rQ _ _ _).symm,λk _ a=>na _ a⟩
theorem yt{P:jH}{fn:FuncId}{c:jE}{b:jA->Act->hQ->Prop}{a:Act}{w w':hQ}(e:w'=w)(h:WpF P fn c b a w'):WpF P fn c b a w:=e▸h
theorem L3(v:Val)(db:ih)(w:hQ)(c:ao (·<w.heap.size) w v db)(e:SmL v.l):
 jh ja 28 #[hZ #[I N v.k,I N v.n,jv v.s,db]] w (o6 w (fx v)):=by
 have ep:∀(fn:Fn) (first cz:Array ih) (w:hQ),(Instr.makeFunc fn first cz).run ja w=.ok (.func fn first cz) w:=λ_ _ _ _=>rfl
 obtain⟨pu,cu,rfl⟩:=c.form;obtain⟨ov,d⟩:=J (fx v);rw[<-d];unfold fx at d;obtain⟨xk,xn,xs,l⟩:=v;have f:ov=(rI l).bind λa=>(rI a.2).bind λb=>(rD b.2).bind λp=>(rI p.2).bind λau=>(rL au.2).bind λch=>(bF gR ch.1).bind λej=>
  (rL ch.2).bind λg=>(cP g.1).bind λm=>(rL g.2).bind λh=>(bF rBx h.1).bind λbox=>(rL h.2).bind λj=>(bF rWl j.1).bind λwel=>
  (rD j.2).bind λk=>(rI k.2).bind λr=>(rI r.2).map λs=>(⟨a.1,b.1,p.1,au.1,ej,m,box,wel,k.1,r.1,s.1⟩:Cmt):=d
 have g:SmL l:=e;have a3:ao (·<w.heap.size) w (vL l) (hH pu l.length cu):=by
  rw[ao]at c;unfold vL;rw[ao];exact c
 show jh ja 28 #[hZ #[I N xk,I N xn,jv xs,hH pu l.length cu]] w (o6 w ov);have j:=O f;have t:=O g;have Vu:=O a3;clear d f e g c a3;obtain⟨nl,c⟩:=J l.length;rw[<-c]at Vu⊢;have D:=O c;clear c;obtain⟨x0,d⟩:=J (((w.alloc (hK #[I N xk,I N xn,jv xs,hH pu nl cu] 43)).alloc (hK (aj dG eX).toArray 31)));obtain⟨f,g⟩:=J w.heap.size;have e:=jo w (hK #[I N xk,I N xn,jv xs,hH pu nl cu] 43);have n:=af w (hK #[I N xk,I N xn,jv xs,hH pu nl cu] 43);have h:=jo (w.alloc (hK #[I N xk,I N xn,jv xs,hH pu nl cu] 43)) (hK (aj dG eX).toArray 31);have c:=af (w.alloc (hK #[I N xk,I N xn,jv xs,hH pu nl cu] 43)) (hK (aj dG eX).toArray 31);replace e:=ak e c;rw[jN]at h;have o:=(n).trans (c.mono (n).size);rw[<-d]at o;rw[<-d,<-g]at e;rw[<-d,<-g]at h;have y:=O e;have z:=O h;have k:=O o;have q:=O d;have m:=O g;clear o d g e n h c;have B:A (ao (·<w.heap.size) x0 (vL l) (hH pu nl cu)):=O (ao.keep (λg hg=>k.block g hg) _ _ Vu.out);have c:=af x0 (hK #[hH pu nl cu] 150);have e:=RdV.new (N0:=w.heap.size) (l:=l) (x:=vL l) rfl B k.size;have h:x0.heap.size=f+2:=by rw[q,m];simp
 obtain⟨x1,d⟩:=J (x0.alloc (hK #[hH pu nl cu] 150));rw[<-d,h]at e;rw[<-d]at c;have n:w.heap.size=f:=m.symm;rw[n]at e;have UC:=O n;have u:A (x1.heap[f+1]?=T (hK (aj dG eX).toArray 31 (0,0))):=Z z c;have F:=O e;have E:A (jb w w x1):=ac k c;have U:A (x1.heap.size=f+3):=O (by rw[d];simp[h]);have o:=O d;have c3:=cell_of (i:=3) y rfl;clear e c h d n Vu B D;refine Fb func28 rfl ?_;simp only[ntmps28,jC,kn,qm,Nat.reduceAdd,Nat.reduceSub,qn,qo,qs,qt,j6,jO];refine fX λK0 dd=>gY ?_
 go_wp2_with fail
 refine yt (w':=x0) (q.trans rfl) ?_;rw[<-m];clear q m;refine fX λK0 dd=>gY ?_
 go_wp2_with fail
 clear c3;refine yt o ?_;have c:x0.heap.size=f+2:=by have:=U.out;rw[o]at this;simp at this;omega
 rw[c];clear c o y z k;refine fX λK0 dd=>gY ?_
 obtain⟨O0,Ri,H,m⟩:∃VK:hQ->Prop,A (Kept (f+1) (f+2) VK)/\A (∀x,VK x->jb w w x/\∀D∈([]:List Nat),x.heap[D]?=T (.deferred (T []))/\w.heap.size<=D)/\A (VK x1):=
  ⟨λx=>jb w w x,O (Jm (aw UC) (aw UC)),O (λx h=>⟨h,λD h=>by cases h⟩),E⟩
 have RF:A (([]:List Nat).Nodup):=O List.nodup_nil;clear E;have d:=t;clear t;have t:=O (fA (f) (f+2) Y l x1 F d.len);obtain⟨y,o⟩:=J (rI l);have E:=O (λr (h:y=T r)=>d.rI (r:=r) (by rw[<-o];exact h));rw[<-o]at t j;clear o
 go_wp2_with fail
 refine t.mono ?_;rintro e x2 ⟨n,P⟩;have k:=O ((n.block (f+1) (je.1 u).1 Y).trans u);have c:=O (Ri _ _ m.out (Kp.ofR n));clear n t m u F d
 rcases y with _|r
 ·obtain rfl:e=.panicked bD:=P
  have F:ov=hF:=j.out;exact fE (Ds:=[]) F (H _ c.out).1 RF (H _ c.out).2
 obtain⟨va,la⟩:=r;obtain⟨rfl,z⟩:=P;have u:A (RdV f x2 (f+2) la):=O z;have m:A (SmL la):=O (E _ rfl);replace j:=j.out;rw[jk]at j;replace j:=O j;dsimp only at j;clear z E;have t:=O (fA (f) (f+2) Y la x2 u m.len);obtain⟨y,o⟩:=J (rI la);have E:=O (λr (h:y=T r)=>m.rI (r:=r) (by rw[<-o];exact h));rw[<-o]at t j;clear o
 go_wp2_with fail
 refine t.mono ?_;rintro e x3 ⟨n,P⟩;have q:=O ((n.block (f+1) (je.1 k).1 Y).trans k);have d:=O (Ri _ _ c.out (Kp.ofR n));clear n t c k u m
 rcases y with _|r
 ·obtain rfl:e=.panicked bD:=P
  have F:ov=hF:=j.out;exact fE (Ds:=[]) F (H _ d.out).1 RF (H _ d.out).2
 obtain⟨vb,lb⟩:=r;obtain⟨rfl,z⟩:=P;have u:A (RdV f x3 (f+2) lb):=O z;have k:A (SmL lb):=O (E _ rfl);replace j:=j.out;rw[jk]at j;replace j:=O j;dsimp only at j;clear z E;have t:=O (Br (f) (f+2) Y lb x3 u k.len);obtain⟨y,o⟩:=J (rD lb);have E:=O (λr (h:y=T r)=>k.rD (r:=r) (by rw[<-o];exact h));rw[<-o]at t j;have QT:A (∀r,y=T r->r.1.length=32):=O (λr h=>(tM (by rw[<-o];exact h)).2);clear o
 go_wp2_with fail
 refine t.mono ?_;rintro e x4 ⟨n,P⟩;have m:=O ((n.block (f+1) (je.1 q).1 Y).trans q);have c:=O (Ri _ _ d.out (Kp.ofR n));clear n t d q u k
 rcases y with _|r
 ·obtain rfl:e=.panicked bD:=P
  have F:ov=hF:=j.out;exact fE (Ds:=[]) F (H _ c.out).1 RF (H _ c.out).2
 obtain⟨vp,lp⟩:=r;obtain⟨rfl,z⟩:=P;have k:A (RdV f x4 (f+2) lp):=O z;have d:A (SmL lp):=O (E _ rfl);replace j:=j.out;rw[jk]at j;replace j:=O j;dsimp only at j;clear z E;have V:A (vp.length=32):=O (QT _ rfl);clear QT;have t:=O (fA (f) (f+2) Y lp x4 k d.len);obtain⟨y,o⟩:=J (rI lp);have E:=O (λr (h:y=T r)=>d.rI (r:=r) (by rw[<-o];exact h));rw[<-o]at t j;clear o
 go_wp2_with fail
 refine t.mono ?_;rintro e x5 ⟨n,P⟩;have W:=O ((n.block (f+1) (je.1 m).1 Y).trans m);have u:=O (Ri _ _ c.out (Kp.ofR n));clear n t c m k d
 rcases y with _|r
 ·obtain rfl:e=.panicked bD:=P
  have F:ov=hF:=j.out;exact fE (Ds:=[]) F (H _ u.out).1 RF (H _ u.out).2
 obtain⟨vd,ld⟩:=r;obtain⟨rfl,z⟩:=P;have m:A (RdV f x5 (f+2) ld):=O z;have X:A (SmL ld):=O (E _ rfl);replace j:=j.out;rw[jk]at j;replace j:=O j;dsimp only at j;clear z E;have bN:∀c:Cmt,c.parent.length=32->c.confirm.length=32->(aj c eX).toArray.size=73:=λc h1 D=>eO c eX h1 D
 obtain⟨⟨v0,c0⟩,f0,g0,o0⟩:=bP (i:=0) (I N va) W.out (by rw[bN _ rfl rfl];decide);rw[LD]at g0;obtain⟨⟨v1,c1⟩,f1,g1,o1⟩:=bP (i:=1) (I N vb) g0 (by rw[bN _ rfl rfl];decide);rw[Gc]at g1;obtain⟨y1,d⟩:=J ((x5.setCell ⟨f+1,0,hF⟩ (I N va)).setCell ⟨f+1,1,hF⟩ (I N vb));rw[<-d]at g1;have cf:y1.there (f+1) 2 (vp.map v8).toArray.size:=lT g1 (by rw[bN _ rfl rfl,show(vp.map v8).toArray.size=(vp.map v8).length from jC ..,jr,V];decide);have bc:(ja.info? 23).map (·.size)=T (vp.map v8).toArray.size:=by rw[show(vp.map v8).toArray.size=(vp.map v8).length from jC ..,jr,V];kernel_rfl
 have g2:=yC (vp.map v8) 2 _ _ g1;rw[MX _ _ _ rfl V]at g2;obtain⟨y2,q⟩:=J (y1.setCells (f+1) 2 (vp.map v8));rw[<-q]at g2;obtain⟨⟨v3,c3⟩,f3,B,o3⟩:=bP (i:=34) (I N vd) g2 (by rw[bN _ V.out rfl];decide);rw[Ni _ _ _ V.out]at B;have Qb:aD (f+1) x5.heap.size x5 (y2.setCell ⟨f+1,34,hF⟩ (I N vd)):=by
  rw[q,d];exact(((oQ (f+1) x5.heap.size 0 (I N va) x5).trans (oQ (f+1) x5.heap.size 1 (I N vb) _) (jd _)).trans (EJ (f+1) x5.heap.size (vp.map v8) 2 _) (jd _)).trans (oQ (f+1) x5.heap.size 34 (I N vd) _) (jd _)
 have K:A ((y2.setCell ⟨f+1,34,hF⟩ (I N vd)).heap[f+1]?=T (hK (aj {dG with folder:=va,epoch:=vb,parent:=vp,author:=vd} eX).toArray 31 (0,0))):=O B;have M:=O (m.keep (w':=y2.setCell ⟨f+1,34,hF⟩ (I N vd)) (Qb.block (f+2) m.lt Y) (λk hk=>Qb.block k (a8 m.lt) Y));have Q:=O (Ri _ _ u.out (Kp.ofC Qb));have R:A (f+3<=(y2.setCell ⟨f+1,34,hF⟩ (I N vd)).heap.size):=O (by have:=m.lt;have:=Qb.size;omega);have cd:=O cf;have Py:=O bc;have aa:=O d;have ad:=O q;rw[d]at cd;have S:(y1.setCells (f+1) 2 (vp.map v8))=y2:=q.symm;rw[d]at S;clear g0 g1 g2 B o0 o1 o3 Qb cf bc d q bN W m u U;have q:=X;clear X
 go_wp2_with (refine jg rfl λ_ u=>qh 23 _ _ rfl (f+1) 2 (vp.map v8).toArray rfl rfl cd Py (dA vp) (u _ _ ?_);rw[show(vp.map v8).toArray.toList=vp.map v8 from rfl,S])
 generalize y2.setCell ⟨f+1,34,hF⟩ (I N vd)=x6 at K M Q R⊢;have d:=K;have Tj:=M;have B:=Q;have U:=R;clear K M Q R c0 f0 c1 f1 c3 f3 S cd Py aa ad;obtain⟨c6,m⟩:∃c:Cmt,c={dG with folder:=va,epoch:=vb,parent:=vp,author:=vd}:=⟨_,rfl⟩;rw[<-m]at d;replace V:A (c6.parent.length=32/\c6.confirm.length=32):=O (by rw[m];exact⟨V,du⟩);have dr:=O m;clear m;refine fX λK1 bf=>fX λK2 ds=>gY ?_
 have t:=O (vZ f (f+2) Y ld x6 Tj q.len);obtain⟨y,o⟩:=J (rL ld);have E:=O (λr (h:y=T r)=>q.rL (r:=r) (by rw[<-o];exact h));rw[<-o]at t j;clear o
 go_wp2_with fail
 refine t.mono ?_;rintro e x7 ⟨n,P⟩;have m:=O ((n.block (f+1) (je.1 d).1 Y).trans d);have bB:=O (Ri _ _ B.out (Kp.ofR n));have a2:A (f+3<=x7.heap.size):=O (js U n.size);clear n t B d Tj q U
 rcases y with _|r
 ·obtain rfl:e=.panicked bD:=P
  have F:ov=hF:=j.out;exact fE (Ds:=[]) F (H _ bB.out).1 RF (H _ bB.out).2
 obtain⟨cj,le⟩:=r;obtain⟨⟨B,ul,rfl,ck,bO,a3⟩,z⟩:=P;replace a3:ao (·<f) x7 (vL cj) ul:=a3;have bb:=E _ rfl;have Wn:A (RdV f x7 (f+2) le):=O z;have b3:A (SmL le):=O bb.2;have RP:A (SmL cj):=O bb.1;replace j:=j.out;rw[jk]at j;replace j:=O j;dsimp only at j;have O4:=O bO;have Vu:=O a3;clear z E bb ck bO a3
 go_wp2_with fail
 refine uU ?_;obtain⟨M,hM⟩:=J x7.heap.size;have Qd:A (f+3<=M):=O (by rw[hM];exact a2);have HM:=O hM;obtain⟨U,SE⟩:∃b6:ih->Array ih,b6=λv=>(aj c6 ⟨v,hH hF 0 0,hH hF 0 0,hH hF 0 0⟩).toArray:=⟨_,rfl⟩
 have bh:A (∀v,(U v)[35]?=T v):=O (λv=>by rw[SE];exact Ln _ _ _ _ _ V.1 V.2);have WO:A (∀v x,(U v).setIfInBounds 35 x=U x):=O (λv x=>by rw[SE];exact Ke _ _ _ _ _ _ V.1);have bk:A (∀v,(U v).size=73):=O (λv=>by rw[SE];exact eO _ _ V.1 V.2);have YQ:A (x7.heap[f+1]?=T (hK (U (hH hF 0 0)) 31 (0,0))):=O (by rw[SE];exact m);have bl:=O SE;have Tc:A (bF gR cj=hF->ov=hF):=O (λh=>by have D:=j.out;rw[h]at D;exact D);clear hM SE m;refine vv (fd:=Tryz.f28) (gf:=148) (lb:=#[ji (T ⟨B,0,hF⟩)]) func28 rfl (enters_of func148 ae rfl)
  (uH (N0:=f) (n₀:=f) (m₀:=M) (jd _) cj RP.len B ul x7 (aw a2) (by rw[HM];exact jd _) O4 Vu) (aw a2) (λ_=>rfl) (wB (aw a2) cj)
  (λO5 W=>∃R vr,bF gR (O5.map (·.2))=T R/\da M (f+1) 31 59 5 U x7 W R.length vr (R.flatMap Chg.cells)) (λch W=>ch=bD/\ov=hF/\aD (f+1) M x7 W)
  (by rintro O5 a1 B' ⟨R,vr,h1,D⟩ ht;exact⟨R,vr,h1,D.rolls (by rw[HM];exact jd _) ht⟩)
  ⟨[],hH hF 0 0,rfl,YQ,qv _ _ _ _,aD.refl _ _ _,by rw[HM];exact jd _⟩
  (λtm x=>(tm.setIfInBounds 19 (ji (T ⟨x.1,0,hF⟩))).setIfInBounds 4 (ji (T ⟨x.1,0,hF⟩))) ?assign ?body ?done ?panic
 case assign=>
  intro l' x a1 K u
  gi_wp2
  exact u
 case panic=>
  rintro D1 ch W hD hP bd;have F:ch=bD/\ov=hF/\aD (f+1) M x7 W:=by
   rcases hP with h|⟨O5,⟨rfl,v,r,e,hk⟩,R,vr,h1,D⟩
   ·exact h
   exact⟨rfl,Tc.out (by rw[e];exact mw (.inl hk) h1),D.but⟩
  obtain⟨rfl,F,al⟩:=F;have hO:=Ri _ _ bB.out (Kp.ofC (by rw[<-HM];exact al));have YS:(D1::[]).Nodup:=jR.2 ⟨λh=>by have D:=((H _ bB.out).2 D1 h).1;have:=(je.1 D).1;omega,RF⟩;exact fE (Ds:=D1::[]) F (H _ hO).1 YS (λD' h=>by
   rcases jw.1 h with rfl|h
   ·exact⟨bd,by have:=a2.out;have:=UC.out;omega⟩
   exact(H _ hO).2 D' h)
 case body=>
  rintro l' O5 ⟨X,xv⟩ a1 ⟨R,vr,ad,Q⟩ ⟨-,⟨rr,SQ⟩,hx⟩ bc ⟨Q9,SR⟩;obtain⟨a4,cm,VO⟩:=hx O5 (X,xv) rfl;dsimp only at a4 cm VO SQ;simp only[jS,lv,ki,lo,jO,j6]at SQ;obtain⟨pX,dv,uX,Ww,-,-⟩:=id VO;obtain⟨pv,cv,rfl⟩:=aL Q.own;have WN:A (SmL xv.l):=O (RP.mem (by rw[SQ];simp));obtain⟨m,P⟩:=J R.length;have cA:m<=1000000:=by
   have h1:=se ad;have D:=congrArg jW SQ;have h3:=RP.len;simp at h1 D;omega
  obtain⟨oc,a5⟩:=J (gR xv.l);have Qa:A (oc=hF->ov=hF):=O (λh=>Tc.out (by rw[SQ];exact mw (.inr (by rw[<-a5];exact h)) ad));have ZU:A (∀c,oc=T c->bF gR ((O5++[(X,xv)]).map (·.2))=T (R++[c])):=O (λc h=>by rw[jS];exact rE ad a4 (by rw[<-a5];exact h));obtain⟨l0,bI⟩:=J xv.l;rw[<-bI]at a5 WN VO Ww;have q:A (oc=(rI l0).bind λa=>(rI a.2).bind λb=>(rI b.2).bind λc=>(rI c.2).bind λd=>(rI d.2).map λe=>⟨a.1,b.1,c.1,d.1,e.1⟩):=O a5;rw[<-P]at Q;have R3:=O P;have Rf:=O Ww;have S:=O Q;obtain⟨z0,Pe⟩:=J a1.drew;have UT:A (z0.heap[f+1]?=T (hK (U (hH pv m cv)) 31 (0,0))):=O (by rw[Pe];exact Q.box);have bm:A (RdV f z0 X l0):=O (VO.keep (by rw[Pe];rfl) (λk _=>by rw[Pe];rfl));have bn:=WN;have Yb:A (aD X a1.heap.size a1 z0):=O (by rw[Pe];exact⟨rfl,rfl,rfl,jd _,λ_ _ _=>rfl⟩);have Vz:A (M<=a1.heap.size):=O Q.sz';have cL:=Qd.out;clear ad SQ hx SR a4 VO Ww P a5 bI Q WN bc Tc j O4 Vu;refine wpIn_block ?_;dsimp only;simp only[o4,jV,pa];refine tb (λW'=>W'.heap[f+1]?=T (hK (U (hH pv m cv)) 31 (0,0))) 16 [(0,true),(1,true),(2,true),(4,true),(6,true),(8,true),(10,true),(3,false),(5,false),(7,false),(9,false),(11,false),(12,true),(13,false),(14,false),(15,true),(16,false)] ae ae ae ae rfl (λc a d v w h=>⟨by have:=h.1;rwa [put_defers]at this,h.2⟩) (fun⟨_,_,h⟩=>h) (by rw[<-Pe];exact UT) ?_;rw[<-Pe];clear Pe;refine bY ?_
  (refine cR (v:=?_) rfl ag (λW' hS=>?_) ?_;rotate_left;(have cX:=cell_of hS (bh _);go_simp;with_reducible rfl);refine L ?_)
  iterate 5 refine bY ?_
  refine aS rfl (λK' u=>?_);go_simp;have t:=O (fA f X Y l0 z0 bm bn.len);obtain⟨y,o⟩:=J (rI l0);have E:=O (λr (h:y=T r)=>bn.rI (r:=r) (by rw[<-o];exact h));rw[<-o]at t q;clear o;refine t.mono ?_;rintro e z1 ⟨n,P6⟩;have Uj:=O (Yb.trans n Yb.size);have VM:=O ((n.block (f+1) (je.1 UT).1 Y).trans UT);clear n t Yb UT bm bn
  rcases y with _|r
  ·obtain rfl:e=.panicked bD:=P6
   have F:ov=hF:=Qa q;exact⟨rfl,gk Rf Uj,rfl,F,gP S.but Uj Y Vz⟩
  obtain⟨vk,l1⟩:=r;obtain⟨rfl,z⟩:=P6;have bo:A (RdV f z1 X l1):=O z;have bq:A (SmL l1):=O (E _ rfl);replace q:=q.out;rw[jk]at q;replace q:=O q;dsimp only at q;refine u _ _ VM.out λ_=>?_
  clear u z E;refine L ?_;refine aS rfl (λK' u=>?_);go_simp;have t:=O (fA f X Y l1 z1 bo bq.len);obtain⟨y,o⟩:=J (rI l1);have E:=O (λr (h:y=T r)=>bq.rI (r:=r) (by rw[<-o];exact h));rw[<-o]at t q;clear o;refine t.mono ?_;rintro e z2 ⟨n,P6⟩;have VL:=O (Uj.trans n Uj.size);have bg:=O ((n.block (f+1) (je.1 VM).1 Y).trans VM);clear n t Uj VM bo bq
  rcases y with _|r
  ·obtain rfl:e=.panicked bD:=P6
   have F:ov=hF:=Qa q;exact⟨rfl,gk Rf VL,rfl,F,gP S.but VL Y Vz⟩
  obtain⟨ve,l2⟩:=r;obtain⟨rfl,z⟩:=P6;have ce:A (RdV f z2 X l2):=O z;have bT:A (SmL l2):=O (E _ rfl);replace q:=q.out;rw[jk]at q;replace q:=O q;dsimp only at q;refine u _ _ bg.out λ_=>?_
  clear u z E;refine L ?_;refine aS rfl (λK' u=>?_);go_simp;have t:=O (fA f X Y l2 z2 ce bT.len);obtain⟨y,o⟩:=J (rI l2);have E:=O (λr (h:y=T r)=>bT.rI (r:=r) (by rw[<-o];exact h));rw[<-o]at t q;clear o;refine t.mono ?_;rintro e z3 ⟨n,P6⟩;have bK:=O (VL.trans n VL.size);have b7:=O ((n.block (f+1) (je.1 bg).1 Y).trans bg);clear n t VL bg ce bT
  rcases y with _|r
  ·obtain rfl:e=.panicked bD:=P6
   have F:ov=hF:=Qa q;exact⟨rfl,gk Rf bK,rfl,F,gP S.but bK Y Vz⟩
  obtain⟨vf,l3⟩:=r;obtain⟨rfl,z⟩:=P6;have cw:A (RdV f z3 X l3):=O z;have cc:A (SmL l3):=O (E _ rfl);replace q:=q.out;rw[jk]at q;replace q:=O q;dsimp only at q;refine u _ _ b7.out λ_=>?_
  clear u z E;refine L ?_;refine aS rfl (λK' u=>?_);go_simp;have t:=O (fA f X Y l3 z3 cw cc.len);obtain⟨y,o⟩:=J (rI l3);have E:=O (λr (h:y=T r)=>cc.rI (r:=r) (by rw[<-o];exact h));rw[<-o]at t q;clear o;refine t.mono ?_;rintro e z4 ⟨n,P6⟩;have aa:=O (bK.trans n bK.size);have ba:=O ((n.block (f+1) (je.1 b7).1 Y).trans b7);clear n t bK b7 cw cc
  rcases y with _|r
  ·obtain rfl:e=.panicked bD:=P6
   have F:ov=hF:=Qa q;exact⟨rfl,gk Rf aa,rfl,F,gP S.but aa Y Vz⟩
  obtain⟨vg,l4⟩:=r;obtain⟨rfl,z⟩:=P6;have bu:A (RdV f z4 X l4):=O z;have bs:A (SmL l4):=O (E _ rfl);replace q:=q.out;rw[jk]at q;replace q:=O q;dsimp only at q;refine u _ _ ba.out λ_=>?_
  clear u z E;refine L ?_;refine aS rfl (λK' u=>?_);go_simp;have t:=O (fA f X Y l4 z4 bu bs.len);obtain⟨y,o⟩:=J (rI l4);have E:=O (λr (h:y=T r)=>bs.rI (r:=r) (by rw[<-o];exact h));rw[<-o]at t q;clear o;refine t.mono ?_;rintro e z5 ⟨n,P6⟩;have br:=O (aa.trans n aa.size);have bv:=O ((n.block (f+1) (je.1 ba).1 Y).trans ba);clear n t aa ba bu bs
  rcases y with _|r
  ·obtain rfl:e=.panicked bD:=P6
   have F:ov=hF:=Qa q;exact⟨rfl,gk Rf br,rfl,F,gP S.but br Y Vz⟩
  obtain⟨vh,l5⟩:=r;obtain⟨rfl,z⟩:=P6;have bs:A (RdV f z5 X l5):=O z;have bu:A (SmL l5):=O (E _ rfl);replace q:=q.out;rw[jP]at q;replace q:=O q;dsimp only at q;refine u _ _ bv.out λ_=>?_
  clear u z E;refine L ?_;refine bY ?_;refine aS rfl (λK' u=>?_);go_simp;refine u _ _ (ak bv (af _ _)) λ_=>?_
  clear u;refine L ?_;have Ya:=S.laterX Y Y Rf G br;have ba:=af z5 (hK #[I N vk,I N ve,I N vf,I N vg,I N vh] 59);have aa:=Ya.later Y ba;refine aS rfl (λK' u=>?_);rw[if_pos ag];refine Gj _ _ rfl M (hH pv m cv) m _ rfl aa.own _ 1 [I N vk,I N ve,I N vf,I N vg,I N vh] rfl (ei z5 [I N vk,I N ve,I N vf,I N vg,I N vh] 59 (0,0) 5 1 1 rfl (jd _)) (by simp[jX]) Y aa.sz' λv' z7 Pz=>?_
  have QB:=dW aa.box Pz.grown (bU aa.own (.inr Y));obtain⟨pn,cn,rfl⟩:=aL Pz.own;have UD:=O QB;have Z5:=O Pz;have Tj:=O aa;clear Ya aa ba;refine u _ _ QB λ_=>?_
  clear u QB Pz;refine L ?_;refine bY ?_;obtain⟨⟨vo,c3⟩,f3,-,-⟩:=bP (i:=35) (hH pn (m+1) cn) UD.out (by rw[bk];decide);refine gq rfl (λK' u=>?_);go_simp;refine u _ _ ?_;have bM:=da.push (i:=35) Tj Y Z5 (WO _ _);have b0:=(gk (B0:=x7.heap.size) Rf br).trans ((vM _ _ _).trans (wg Tj Z5 (i:=35)));refine⟨⟨b0,tT S.but bM.but b0.size Y Y⟩,R++[⟨vk,ve,vf,vg,vh⟩],hH pn (m+1) cn,ZU _ q.out,?_⟩;rw[jF,List.flatMap_append,<-R3];exact bM
 case done=>
  rintro D1 xs W hD ⟨QL,a4⟩ ⟨R,vr,ad,Q⟩ bd;rw[QL]at ad;obtain⟨br,bs,rfl⟩:=aL Q.own;have al:=Q.but;replace j:=j.out;rw[ad,jk]at j;replace j:=O j;have TQ:aD (f+1) x7.heap.size x7 W:=by rw[<-HM];exact al
  have b4:A (RdV f W (f+2) le):=O (Wn.keep (TQ.block (f+2) Wn.lt Y) (λk hk=>TQ.block k (a8 Wn.lt) Y));have b2:=b3;have bC:A (W.heap[f+1]?=T (hK (aj c6 ⟨hH br R.length bs,hH hF 0 0,hH hF 0 0,hH hF 0 0⟩).toArray 31 (0,0))):=O (by have h:=Q.box;rw[bl]at h;exact h);have hO:=Ri _ _ bB.out (Kp.ofC TQ);have b8:A (f+3<=W.heap.size):=O (js a2 al.size);have YS:(D1::[]).Nodup:=jR.2 ⟨λh=>by have D:=((H _ bB.out).2 D1 h).1;have:=(je.1 D).1;omega,RF⟩;have YT:D1≠f+1/\D1≠f+2/\w.heap.size<=D1:=by have:=a2.out;have:=UC.out;omega
  obtain⟨H1,bu⟩:=J W.heap.size;obtain⟨M1,bv⟩:=J M;obtain⟨r1,b1⟩:=J R;rw[<-b1]at Q j bC;rw[<-bv]at Q;have O9:ah (λg=>M1<=g/\g<W.heap.size) W (hH br r1.length bs) 5 r1.length (r1.flatMap Chg.cells):=ah.of_own Q.own (λg hg=>Q.own.lt g hg);obtain⟨O1,QV⟩:∃VK:hQ->Prop,VK=λx=>(O0 x/\x.heap[D1]?=T (.deferred (T [])))/\(H1<=x.heap.size/\ah (λg=>M1<=g/\g<H1) x (hH br r1.length bs) 5 r1.length (r1.flatMap Chg.cells)):=⟨_,rfl⟩
  have bw:A (Kept (f+1) (f+2) O1):=O (by rw[QV];exact(Ri.and (ym YT.1 YT.2.1)).and (yR (aw Qd) (aw Qd)));have bA:A (∀x,O1 x->jb w w x/\∀D'∈D1::[],x.heap[D']?=T (.deferred (T []))/\w.heap.size<=D'):=O (by
   rw[QV];intro x h;refine⟨(H x h.1.1).1,λD' cp=>?_⟩
   rcases jw.1 cp with rfl|D
   ·exact⟨h.1.2,YT.2.2⟩
   exact(H x h.1.1).2 D' D)
  have Tk:A (∀x,O1 x->H1<=x.heap.size/\ah (λg=>M1<=g/\g<H1) x (hH br r1.length bs) 5 r1.length (r1.flatMap Chg.cells)):=O (by rw[QV];exact λx h=>h.2)
  skip
  have b9:A (O1 W):=O (by rw[QV,bu];exact⟨⟨hO,bd⟩,jd _,O9⟩);have Ro:A (f+3<=M1/\M1<=H1):=O ⟨by rw[bv];exact Qd,by rw[bu];exact Q.sz'⟩;replace RF:=O YS;replace Ri:=bw;replace H:=bA;clear Q al TQ hO YT O9 bu QV YS bw bA Wn bB b3 RP O4 Vu Tc YQ bh WO bk bl Qd HM a2 QL a4 ad bv b1 hD bd;rename hQ=>x8;refine bf _ _ ?_;clear bf K1;have cb:=CG;refine fX λK1 bf=>gY ?_
  have t:=O (tn f (f+2) Y 3 le x8 b4 b2.len);replace j:=j.out;rw[show rL le=(nx 3 le).map (λr=>(r.1.l,r.2))from rfl]at j;obtain⟨y,o⟩:=J (nx 3 le);have E:A (∀r,y=T r->SmL r.1.l/\SmL r.2):=O (λr h=>by
   have D:=b2.out;obtain⟨e1,-⟩:=kU (o.symm.trans h);rw[e1]at D;exact⟨D.mem (oj ..),D.tail⟩)
  rw[<-o]at t j;replace j:=O j;clear o
  go_wp2_with fail
  refine t.mono ?_;rintro e x9 ⟨n,P⟩;have ca:=O ((n.block (f+1) (je.1 bC).1 Y).trans bC);have bB:=O (Ri _ _ b9.out (Kp.ofR n));have b5:A (f+3<=x9.heap.size):=O (js b8 n.size);clear n t b9 bC b4 b2 b8
  rcases y with _|r
  ·obtain rfl:e=.panicked bD:=P
   have F:ov=hF:=j.out;exact fE (Ds:=[D1]) F (H _ bB.out).1 RF (H _ bB.out).2
  obtain⟨xe,lf⟩:=r;obtain⟨⟨ue,rfl,b2⟩,z⟩:=P;obtain⟨pp,ea,rfl⟩:=b2.form;have bb:=E _ rfl;have Z2:A (SmL lf):=O bb.2;have b8:A (SmL xe.l):=O bb.1;have SC:A (RdV f x9 (f+2) lf):=O z;replace j:=j.out;rw[jP,jk]at j;replace j:=O j;dsimp only at j;obtain⟨lp,b4⟩:=J xe.l;have a2:=RdV.new (N0:=f) (l:=xe.l) (x:=xe) rfl b2 (aw b5);obtain⟨np,Yq⟩:=J xe.l.length;rw[<-Yq]at a2⊢;rw[<-b4]at a2 b8 j;obtain⟨M,hM⟩:=J x9.heap.size;have bC:=af x9 (hK #[hH pp np ea] 150);obtain⟨y0,b3⟩:=J (x9.alloc (hK #[hH pp np ea] 150));rw[<-b3]at a2 bC;rw[<-hM]at a2;have Qd:A (f+3<=M):=O (by rw[hM];exact b5);have HM:=O hM;have Z6:=O b3;have cx:A (M<=y0.heap.size):=O (by rw[hM];exact bC.size);obtain⟨U,SE⟩:∃b6:ih->Array ih,b6=λv=>(aj c6 ⟨hH br r1.length bs,v,hH hF 0 0,hH hF 0 0⟩).toArray:=⟨_,rfl⟩
  have bh:A (∀v,(U v)[36]?=T v):=O (λv=>by rw[SE];exact(kS _ _ _ _ _ V.1 V.2).1);have WO:A (∀v x,(U v).setIfInBounds 36 x=U x):=O (λv x=>by rw[SE];exact Dv _ _ _ _ _ _ V.1);have bk:A (∀v,(U v).size=73):=O (λv=>by rw[SE];exact eO _ _ V.1 V.2);have YQ:A (x9.heap[f+1]?=T (hK (U (hH hF 0 0)) 31 (0,0))):=O (by rw[SE];exact ca);have Wt:A (da M (f+1) 31 3 1 U x9 y0 0 (hH hF 0 0) []):=O ⟨ak YQ bC,qv _ _ _ _,by rw[hM];exact aD.of_below bC,cx⟩;have cy:A (RdV f y0 M lp):=O a2;have bl:=O SE;have Tc:A (cP lp=hF->ov=hF):=O (λh=>by have D:=j.out;rw[h]at D;exact D);clear z b2 bb E b4 a2 Yq hM bC b3 SE ca
  go_wp2_with fail
  refine yt Z6 ?_;rw[<-HM];clear Z6 cb;refine fX λK1 bf=>gY ?_
  go_wp2_with fail
  go_loopw [38] (λ_ wr=>∃(dn a2:List Val) (is:List Int) (vr:ih),A (lp=dn++a2)/\A (cP dn=T is)/\A (da M (f+1) 31 3 1 U x9 wr is.length vr (is.map (ic .i64)))/\A (RdV f wr M a2)) (λ_ wr=>uV M wr)
  case atStart=>exact⟨[],lp,[],hH hF 0 0,O rfl,O rfl,Wt,cy⟩
  obtain⟨dn,a2,is,vr,ZP,Qn,S,PG⟩:=hrel;have c7:A (SmL a2):=O (b8.suffix ZP);have c9:A (∀v r,a2=v::r->v.k≠1->ov=hF):=O (λv r e hk=>Tc.out (by rw[ZP,e];exact yI hk Qn));obtain⟨pv,cv,rfl⟩:=aL S.own;obtain⟨m,P⟩:=J is.length;have cA:m<=1000000:=by
   have h1:=B3 Qn;have D:=congrArg jW ZP;have h3:=b8.len;simp at D;omega
  replace S:=S.out;rw[<-P]at S;replace S:=O S;have R3:=O P;clear P
  by_cases c5:a2=[]
  case neg=>
   obtain⟨xv,a2,rfl⟩:∃x r,a2=x::r:=by cases a2 with|nil=>exact absurd rfl c5|cons x r=>exact⟨x,r,rfl⟩
   clear c5;obtain⟨p0,c8,ek,h0,-,-⟩:=id PG;obtain⟨nr,bC⟩:=J a2.length;have c0:wr.cell? ⟨M,0,hF⟩=T (hH p0 (nr+1) c8):=by rw[bC];exact cell_of h0 rfl
   have d1:decide (0<((nr+1:Nat):Int))=true:=by simp
   have d2:decide (0<(nr:Int)+1)=true:=by simp
   have d3:decide (0<nr+1)=true:=by simp
   have Rf:=O h0;have b9:=O bC;clear h0 bC
   go_upto_region 8 with fail
   obtain⟨z0,Pe⟩:=J wr.drew;have UT:A (z0.heap[f+1]?=T (hK (U (hH pv m cv)) 31 (0,0))):=O (by rw[Pe];exact S.box);have bm:A (RdV f z0 M (xv::a2)):=O (PG.keep (by rw[Pe];rfl) (λk _=>by rw[Pe];rfl));have Yb:A (aD M wr.heap.size wr z0):=O (by rw[Pe];exact⟨rfl,rfl,rfl,jd _,λ_ _ _=>rfl⟩);have cL:=Qd.out;clear c0 d1 d2 d3;refine Gn (λW'=>W'.heap[f+1]?=T (hK (U (hH pv m cv)) 31 (0,0))) 6 [(0,true),(1,true),(2,false),(3,false),(4,false),(5,true),(6,false)] ae ae ae ae (by rw[<-Pe];exact UT) ?_;rw[<-Pe];clear Pe;refine bY ?_
   (refine cR (v:=?_) rfl ag (λW' hS=>?_) ?_;rotate_left;(have cX:=cell_of hS (bh _);go_simp;with_reducible rfl);refine L ?_)
   refine aS rfl (λK' u=>?_);go_simp;have t:=O (fA f M Y (xv::a2) z0 bm c7.len);obtain⟨y,o⟩:=J (rI (xv::a2));have bC:A ((y=hF->xv.k≠1)/\∀r,y=T r->xv.k=1/\r=(xv.n,a2)):=O (by rw[o];exact Lp xv a2);rw[<-o]at t;clear o;refine t.mono ?_;rintro e z1 ⟨n,P6⟩;have Uj:=O (Yb.trans n Yb.size);have VM:=O ((n.block (f+1) (je.1 UT).1 Y).trans UT);clear n t Yb UT bm
   rcases y with _|r
   ·obtain rfl:e=.panicked bD:=P6
    have F:ov=hF:=c9 _ _ rfl (bC.1 rfl);have hO:=Ri _ _ bB.out (Kp.ofC (by have h:=gP S.but Uj (jd _) S.sz';rw[HM]at h;exact h));intro tt;exact fE (Ds:=[D1]) F (H _ hO).1 RF (H _ hO).2
   obtain⟨b3,rfl⟩:=bC.2 r rfl;obtain⟨rfl,z⟩:=P6;have bo:A (RdV f z1 M a2):=O z;obtain⟨vi,b2⟩:=J xv.n;dsimp only;rw[<-b2];have b4:=O b2;have Rc:=O b3;refine u _ _ VM.out λ_=>?_
   clear u z bC b2 b3;refine L ?_;refine aS rfl (λK' u=>?_);go_simp;refine u _ _ (ak VM (af _ _)) λ_=>?_
   clear u;refine L ?_;have Ya:=S.laterX Y (jd _) Rf G Uj;have ba:=af z1 (hK #[I N vi] 3);have aa:=Ya.later Y ba;have bC:=bo.below Y ba;refine aS rfl (λK' u=>?_);rw[if_pos ag];refine Ea _ _ rfl M (hH pv m cv) m _ rfl aa.own _ 1 [I N vi] rfl (ei z1 [I N vi] 3 (0,0) 1 1 1 rfl (jd _)) (by simp[jX]) Y aa.sz' λv' z7 Pz=>?_
   have QB:=dW aa.box Pz.grown (bU aa.own (.inr Y));have b2:RdV f z7 M a2:=bC.keep (Pz.grown.block M (by have:=aa.sz';have:=bo.lt;have:=ba.size;omega) (λe=>by
    rcases aa.own.2 with D|⟨g,cz,Pq,e1,D,h3,h4⟩
    ·rw[D.1]at e;cases e
    rw[e1]at e;injection e with e
    obtain⟨p9,b3,ca,h9,-,-⟩:=bC;rw[e,h3]at h9;cases h9)) (λk hk=>Pz.grown.block k (a8 aa.sz') (λe=>by have:=(aa.own.lt k e.symm).1;omega))
   obtain⟨pn,cn,rfl⟩:=aL Pz.own;have UD:=O QB;have Z5:=O Pz;have Tj:=O aa;have b3:=O b2;clear Ya aa ba bC b2;refine u _ _ QB λ_=>?_
   clear u QB Pz;refine L ?_;refine bY ?_;obtain⟨⟨vo,c3⟩,f3,-,-⟩:=bP (i:=36) (hH pn (m+1) cn) UD.out (by rw[bk];decide);refine gq rfl (λK' u=>?_);go_simp;refine u _ _ ?_;have bM:=da.push (i:=36) Tj Y Z5 (WO _ _);have bC:RdV f (z7.setCell ⟨f+1,36,hF⟩ (hH pn (m+1) cn)) M a2:=b3.keep (na _ Y) (λk hk=>na _ Y);have b2:=D8 bC;have bI:=D8 PG;clear c3 f3 u
   go_wp2_with fail
   go_roundw
   case rel=>exact⟨_,_,_,_,_,_,_,_,_,⟨dn++[xv],a2,is++[vi],hH pn (m+1) cn,O (by rw[ZP];simp),O (by rw[b4];exact D7 Qn Rc),O (by rw[jF,jS,<-R3];exact bM),O bC⟩,rfl⟩
   case measure=>rw[b2,bI];simp
  subst c5;obtain⟨p0,c8,ek,h0,-,-⟩:=id PG;have c0:wr.cell? ⟨M,0,hF⟩=T (hH p0 0 c8):=cell_of h0 rfl;clear h0;have eb:dn=lp:=by have h:=ZP.out;rw[pr]at h;exact h.symm
  replace Qn:=Qn.out;rw[eb]at Qn;replace j:=j.out;rw[Qn,jk]at j;replace j:=O j;have al:=S.but;have TQ:aD (f+1) x9.heap.size x9 wr:=by rw[<-HM];exact al
  have ec:A (RdV f wr (f+2) lf):=O (SC.keep (TQ.block (f+2) SC.lt Y) (λk hk=>TQ.block k (a8 SC.lt) Y));have cb:=Z2;have bC:A (wr.heap[f+1]?=T (hK (aj c6 ⟨hH br r1.length bs,hH pv m cv,hH hF 0 0,hH hF 0 0⟩).toArray 31 (0,0))):=O (by have h:=S.box;rw[bl]at h;exact h);have hO:=Ri _ _ bB.out (Kp.ofC TQ);have ed:A (f+3<=wr.heap.size):=O (js b5 al.size);obtain⟨Hp,cr⟩:=J wr.heap.size;obtain⟨Mp,b9⟩:=J M;obtain⟨ip,ca⟩:=J is;obtain⟨b2,cs⟩:=J pv;obtain⟨b3,ct⟩:=J cv;have O9:ah (λg=>Mp<=g/\g<wr.heap.size) wr (hH b2 ip.length b3) 1 ip.length (ip.map (ic .i64)):=by
   rw[b9,ca,cs,ct,<-R3];exact ah.of_own S.own (λg hg=>S.own.lt g hg)
  rw[R3,<-ca,<-cs,<-ct]at bC;rw[<-ca]at j;obtain⟨Op,QV⟩:∃VK:hQ->Prop,VK=λx=>O1 x/\(Hp<=x.heap.size/\ah (λg=>Mp<=g/\g<Hp) x (hH b2 ip.length b3) 1 ip.length (ip.map (ic .i64))):=⟨_,rfl⟩
  have bw:A (Kept (f+1) (f+2) Op):=O (by rw[QV];exact Ri.and (yR (aw Qd) (aw Qd)));have bA:A (∀x,Op x->jb w w x/\∀D'∈[D1],x.heap[D']?=T (.deferred (T []))/\w.heap.size<=D'):=O (by rw[QV];exact λx h=>H x h.1);have cq:A (∀x,Op x->Hp<=x.heap.size/\ah (λg=>Mp<=g/\g<Hp) x (hH b2 ip.length b3) 1 ip.length (ip.map (ic .i64))):=O (by rw[QV];exact λx h=>h.2);have b4:=O (λx (h:Op x)=>Tk x (by rw[QV]at h;exact h.1));replace Tk:=b4;have eg:A (Op wr):=O (by rw[QV,cr];exact⟨hO,jd _,O9⟩);have em:A (f+3<=Mp/\Mp<=Hp):=O ⟨by rw[b9];exact Qd,by rw[cr,b9];exact S.sz'⟩;replace Ri:=bw;replace H:=bA;clear b4 eb Qn al TQ hO cr b9 ca cs ct O9 QV bw bA PG S ZP R3 c9 c7 SC bB Z2 b5 b8 Tc Wt cy YQ bh WO bk bl Qd HM cx
  go_wp2_with fail
  clear c0;rename hQ=>VG
  skip
  refine fX λK1 bf=>fX λK2 ds=>gY ?_
  have t:=O (vZ f (f+2) Y lf VG ec cb.len);obtain⟨y,o⟩:=J (rL lf);have E:=O (λr (h:y=T r)=>cb.rL (r:=r) (by rw[<-o];exact h));rw[<-o]at t j;clear o
  go_wp2_with fail
  refine t.mono ?_;rintro e Sd ⟨n,P⟩;have bB:=O ((n.block (f+1) (je.1 bC).1 Y).trans bC);have b8:=O (Ri _ _ eg.out (Kp.ofR n));have b5:A (f+3<=Sd.heap.size):=O (js ed n.size);clear n t eg bC ec cb ed
  rcases y with _|r
  ·obtain rfl:e=.panicked bD:=P
   have F:ov=hF:=j.out;exact fE (Ds:=[D1]) F (H _ b8.out).1 RF (H _ b8.out).2
  obtain⟨cr,lg⟩:=r;obtain⟨⟨B,ul,rfl,ck,bO,a3⟩,z⟩:=P;replace a3:ao (·<f) Sd (vL cr) ul:=a3;have bb:=E _ rfl;have cx:A (RdV f Sd (f+2) lg):=O z;have eb:A (SmL lg):=O bb.2;have RP:A (SmL cr):=O bb.1;replace j:=j.out;rw[jk]at j;replace j:=O j;dsimp only at j;have O4:=O bO;have Vu:=O a3;clear z E bb ck bO a3
  go_wp2_with fail
  refine uU ?_;obtain⟨M,hM⟩:=J Sd.heap.size;have Qd:A (f+3<=M):=O (by rw[hM];exact b5);have HM:=O hM;obtain⟨U,SE⟩:∃b6:ih->Array ih,b6=λv=>(aj c6 ⟨hH br r1.length bs,hH b2 ip.length b3,v,hH hF 0 0⟩).toArray:=⟨_,rfl⟩
  have bh:A (∀v,(U v)[37]?=T v):=O (λv=>by rw[SE];exact(kS _ _ _ _ _ V.1 V.2).2.1);have WO:A (∀v x,(U v).setIfInBounds 37 x=U x):=O (λv x=>by rw[SE];exact um _ _ _ _ _ _ V.1);have bk:A (∀v,(U v).size=73):=O (λv=>by rw[SE];exact eO _ _ V.1 V.2);have YQ:A (Sd.heap[f+1]?=T (hK (U (hH hF 0 0)) 31 (0,0))):=O (by rw[SE];exact bB);have bl:=O SE;have Tc:A (bF rBx cr=hF->ov=hF):=O (λh=>by have D:=j.out;rw[h]at D;exact D);clear hM SE bB;refine vv (fd:=Tryz.f28) (gf:=148) (lb:=#[ji (T ⟨B,0,hF⟩)]) func28 rfl (enters_of func148 ae rfl)
   (uH (N0:=f) (n₀:=f) (m₀:=M) (jd _) cr RP.len B ul Sd (aw b5) (by rw[HM];exact jd _) O4 Vu) (aw b5) (λ_=>rfl) (wB (aw b5) cr)
   (λO5 W=>∃R vr us,bF rBx (O5.map (·.2))=T R/\bX M (f+1) 31 73 4 Bx.cells Bx.body U Sd W R.length vr R us) (λch W=>ch=bD/\ov=hF/\aD (f+1) M Sd W)
   (by rintro O5 a1 B' ⟨R,vr,us,h1,D⟩ ht;exact⟨R,vr,us,h1,D.rolls (by rw[HM];exact jd _) ht⟩)
   ⟨[],hH hF 0 0,[],rfl,bX.start YQ.out (by rw[HM];exact jd _)⟩
   (λtm x=>(tm.setIfInBounds 48 (ji (T ⟨x.1,0,hF⟩))).setIfInBounds 6 (ji (T ⟨x.1,0,hF⟩))) ?assign ?body ?done ?panic
  case assign=>
   intro l' x a1 K u
   gi_wp2
   exact u
  case panic=>
   rintro D2 ch W hD hP bd;have F:ch=bD/\ov=hF/\aD (f+1) M Sd W:=by
    rcases hP with h|⟨O5,⟨rfl,v,r,e,hk⟩,R,vr,us,h1,D⟩
    ·exact h
    exact⟨rfl,Tc.out (by rw[e];exact mw (.inl hk) h1),D.row.but⟩
   obtain⟨rfl,F,al⟩:=F;have hO:=Ri _ _ b8.out (Kp.ofC (by rw[<-HM];exact al));have YS:(D2::[D1]).Nodup:=jR.2 ⟨λh=>by have D:=((H _ b8.out).2 D2 h).1;have:=(je.1 D).1;omega,RF⟩;exact fE (Ds:=D2::[D1]) F (H _ hO).1 YS (λD' h=>by
    rcases jw.1 h with rfl|h
    ·exact⟨bd,by have:=b5.out;have:=UC.out;omega⟩
    exact(H _ hO).2 D' h)
  case body=>
   rintro l' O5 ⟨X,xv⟩ a1 ⟨R,vr,us,ad,Q⟩ ⟨-,⟨rr,SQ⟩,hx⟩ bc ⟨Q9,SR⟩;obtain⟨a4,cm,VO⟩:=hx O5 (X,xv) rfl;dsimp only at a4 cm VO SQ;simp only[jS,lv,ki,lo,jO,j6]at SQ;obtain⟨pX,dv,uX,Ww,-,-⟩:=id VO;obtain⟨pv,cv,rfl⟩:=aL Q.row.own;have WN:A (SmL xv.l):=O (RP.mem (by rw[SQ];simp));obtain⟨m,P⟩:=J R.length;have cA:m<=1000000:=by
    have h1:=se ad;have D:=congrArg jW SQ;have h3:=RP.len;simp at h1 D;omega
   obtain⟨oc,a5⟩:=J (rBx xv.l);have Qa:A (oc=hF->ov=hF):=O (λh=>Tc.out (by rw[SQ];exact mw (.inr (by rw[<-a5];exact h)) ad));have ZU:A (∀c,oc=T c->bF rBx ((O5++[(X,xv)]).map (·.2))=T (R++[c])):=O (λc h=>by rw[jS];exact rE ad a4 (by rw[<-a5];exact h));obtain⟨l0,bI⟩:=J xv.l;rw[<-bI]at a5 WN VO Ww;have q:A (oc=(rI l0).bind λa=>(rI a.2).bind λb=>(rW b.2).map λw=>⟨a.1,b.1,w.1.1,w.1.2⟩):=O a5;rw[<-P]at Q;have R3:=O P;have Rf:=O Ww;have S:=O Q;obtain⟨z0,Pe⟩:=J a1.drew;have UT:A (z0.heap[f+1]?=T (hK (U (hH pv m cv)) 31 (0,0))):=O (by rw[Pe];exact Q.row.box);have bm:A (RdV f z0 X l0):=O (VO.keep (by rw[Pe];rfl) (λk _=>by rw[Pe];rfl));have bn:=WN;have Yb:A (aD X a1.heap.size a1 z0):=O (by rw[Pe];exact⟨rfl,rfl,rfl,jd _,λ_ _ _=>rfl⟩);have Vz:A (M<=a1.heap.size):=O Q.row.sz';have cL:=Qd.out;clear ad SQ hx SR a4 VO Ww P a5 bI Q WN bc Tc j O4 Vu;refine wpIn_block ?_;dsimp only;simp only[o4,jV,pa];refine tb (λW'=>W'.heap[f+1]?=T (hK (U (hH pv m cv)) 31 (0,0))) 12 [(0,true),(1,true),(2,true),(4,true),(6,true),(3,false),(5,false),(7,false),(8,true),(9,false),(10,false),(11,true),(12,false)] ae ae ae ae rfl (λc a d v w h=>⟨by have:=h.1;rwa [put_defers]at this,h.2⟩) (fun⟨_,_,h⟩=>h) (by rw[<-Pe];exact UT) ?_;rw[<-Pe];clear Pe;refine bY ?_
   (refine cR (v:=?_) rfl ag (λW' hS=>?_) ?_;rotate_left;(have cX:=cell_of hS (bh _);go_simp;with_reducible rfl);refine L ?_)
   iterate 3 refine bY ?_
   refine aS rfl (λK' u=>?_);go_simp;have t:=O (fA f X Y l0 z0 bm bn.len);obtain⟨y,o⟩:=J (rI l0);have E:=O (λr (h:y=T r)=>bn.rI (r:=r) (by rw[<-o];exact h));rw[<-o]at t q;clear o;refine t.mono ?_;rintro e z1 ⟨n,P6⟩;have Uj:=O (Yb.trans n Yb.size);have VM:=O ((n.block (f+1) (je.1 UT).1 Y).trans UT);clear n t Yb UT bm bn
   rcases y with _|r
   ·obtain rfl:e=.panicked bD:=P6
    have F:ov=hF:=Qa q;exact⟨rfl,gk Rf Uj,rfl,F,gP S.row.but Uj Y Vz⟩
   obtain⟨vk,l1⟩:=r;obtain⟨rfl,z⟩:=P6;have bo:A (RdV f z1 X l1):=O z;have bq:A (SmL l1):=O (E _ rfl);replace q:=q.out;rw[jk]at q;replace q:=O q;dsimp only at q;refine u _ _ VM.out λ_=>?_
   clear u z E;refine L ?_;refine aS rfl (λK' u=>?_);go_simp;have t:=O (fA f X Y l1 z1 bo bq.len);obtain⟨y,o⟩:=J (rI l1);have E:=O (λr (h:y=T r)=>bq.rI (r:=r) (by rw[<-o];exact h));rw[<-o]at t q;clear o;refine t.mono ?_;rintro e z2 ⟨n,P6⟩;have VL:=O (Uj.trans n Uj.size);have bg:=O ((n.block (f+1) (je.1 VM).1 Y).trans VM);clear n t Uj VM bo bq
   rcases y with _|r
   ·obtain rfl:e=.panicked bD:=P6
    have F:ov=hF:=Qa q;exact⟨rfl,gk Rf VL,rfl,F,gP S.row.but VL Y Vz⟩
   obtain⟨ve,l2⟩:=r;obtain⟨rfl,z⟩:=P6;have ce:A (RdV f z2 X l2):=O z;have bT:A (SmL l2):=O (E _ rfl);replace q:=q.out;rw[jk]at q;replace q:=O q;dsimp only at q;refine u _ _ bg.out λ_=>?_
   clear u z E;refine L ?_;refine aS rfl (λK' u=>?_);go_simp;have t:=O (Dc f X Y l2 z2 ce bT.len);obtain⟨y,o⟩:=J (rW l2);have E:=O (λr (h:y=T r)=>bT.rW (r:=r) (by rw[<-o];exact h));rw[<-o]at t q;clear o;refine t.mono ?_;rintro e z3 ⟨n,P6⟩;have bK:=O (VL.trans n VL.size);have b7:=O ((n.block (f+1) (je.1 bg).1 Y).trans bg);have cs:=O VL.size;clear n t VL bg ce bT
   rcases y with _|r
   ·obtain rfl:e=.panicked bD:=P6
    have F:ov=hF:=Qa q;exact⟨rfl,gk Rf bK,rfl,F,gP S.row.but bK Y Vz⟩
   obtain⟨vw,l3⟩:=r;obtain⟨⟨ub,rfl,b9⟩,z⟩:=P6;obtain⟨pb,cb,rfl⟩:=b9.form;have Sa:=O b9;obtain⟨Zy,bB⟩:=vw;dsimp only at Sa q z⊢;obtain⟨bC,ca⟩:=J bB.length;rw[<-ca]at Sa⊢;have S6:=O ca;clear ca b9;have cw:A (RdV f z3 X l3):=O z;have cc:A (SmL l3):=O (E _ rfl);replace q:=q.out;rw[jP]at q;replace q:=O q;dsimp only at q;refine u _ _ b7.out λ_=>?_
   clear u z E;refine L ?_;refine bY ?_;refine aS rfl (λK' u=>?_);go_simp;refine u _ _ (ak b7 (af _ _)) λ_=>?_
   clear u;refine L ?_;have Ya:=S.laterX Y Y Rf G bK;have ba:=af z3 (hK #[I N vk,I N ve,I N Zy,hH pb bC cb] 73);have aa:=Ya.later Y ba;have ct:=(ah.keep Sa (λg hg=>ba.block g hg.2)).mono (D':=λg=>M<=g/\g<(z3.alloc (hK #[I N vk,I N ve,I N Zy,hH pb bC cb] 73)).heap.size/\(pz pv m cv).ownBlock≠T g) (λg hg=>⟨by have:=cs.out;have:=Vz.out;omega,jc hg.2 ba.size,bU S.row.own (.inl (aw cs))⟩);have c7:=O ct;clear ct;refine aS rfl (λK' u=>?_);rw[if_pos ag];refine AM _ _ rfl M (hH pv m cv) m _ rfl aa.row.own _ 1 [I N vk,I N ve,I N Zy,hH pb bC cb] rfl (ei z3 [I N vk,I N ve,I N Zy,hH pb bC cb] 73 (0,0) 4 1 1 rfl (jd _)) (by simp[jX]) Y aa.row.sz' λv' z7 Pz=>?_
   have QB:=dW aa.row.box Pz.grown (bU aa.row.own (.inr Y));obtain⟨pn,cn,rfl⟩:=aL Pz.own;have UD:=O QB;have Z5:=O Pz;have Tj:=O aa;clear Ya aa ba;refine u _ _ QB λ_=>?_
   clear u QB Pz;refine L ?_;refine bY ?_;obtain⟨⟨vo,c3⟩,f3,-,-⟩:=bP (i:=37) (hH pn (m+1) cn) UD.out (by rw[bk];decide);refine gq rfl (λK' u=>?_);go_simp;refine u _ _ ?_;have bM:=bX.push (i:=37) (x:=(⟨vk,ve,Zy,bB⟩:Bx)) Tj Y (by show ah _ _ _ 1 bB.length (bB.map v8);rw[<-S6];exact c7) Z5 (WO _ _);have b0:=(gk (B0:=Sd.heap.size) Rf bK).trans ((vM _ _ _).trans (wg Tj.row Z5 (i:=37)));refine⟨⟨b0,tT S.row.but bM.row.but b0.size Y Y⟩,R++[⟨vk,ve,Zy,bB⟩],hH pn (m+1) cn,us++[hH pb bC cb],ZU _ q.out,?_⟩;rw[jF,<-R3];exact bM
  case done=>
   rintro D2 xs W hD ⟨QL,a4⟩ ⟨R,vr,us,ad,Q⟩ bd;rw[QL]at ad;obtain⟨b7,cc,rfl⟩:=aL Q.row.own;have al:=Q.row.but;replace j:=j.out;rw[ad,jk]at j;replace j:=O j;have TQ:aD (f+1) Sd.heap.size Sd W:=by rw[<-HM];exact al
   have ec:A (RdV f W (f+2) lg):=O (cx.keep (TQ.block (f+2) cx.lt Y) (λk hk=>TQ.block k (a8 cx.lt) Y));have c9:=eb;have cy:A (W.heap[f+1]?=T (hK (aj c6 ⟨hH br r1.length bs,hH b2 ip.length b3,hH b7 R.length cc,hH hF 0 0⟩).toArray 31 (0,0))):=O (by have h:=Q.row.box;rw[bl]at h;exact h);have hO:=Ri _ _ b8.out (Kp.ofC TQ);have ed:A (f+3<=W.heap.size):=O (js b5 al.size);have YS:(D2::[D1]).Nodup:=jR.2 ⟨λh=>by have D:=((H _ b8.out).2 D2 h).1;have:=(je.1 D).1;omega,RF⟩;have YT:D2≠f+1/\D2≠f+2/\w.heap.size<=D2:=by have:=b5.out;have:=UC.out;omega
   obtain⟨H2,bu⟩:=J W.heap.size;obtain⟨M2,bv⟩:=J M;obtain⟨r2,b1⟩:=J R;rw[<-b1]at Q j cy;rw[<-bv]at Q;have O9:∃us,ah (λg=>M2<=g/\g<W.heap.size) W (hH b7 r2.length cc) 4 r2.length (cB Bx.cells r2 us)/\bH (λg=>M2<=g/\g<W.heap.size) W (r2.map Bx.body) us:=Q.slice rfl (λg h1 D=>⟨h1,D⟩);obtain⟨O2,QV⟩:∃VK:hQ->Prop,VK=λx=>(Op x/\x.heap[D2]?=T (.deferred (T [])))/\(H2<=x.heap.size/\∃us,ah (λg=>M2<=g/\g<H2) x (hH b7 r2.length cc) 4 r2.length (cB Bx.cells r2 us)/\bH (λg=>M2<=g/\g<H2) x (r2.map Bx.body) us):=⟨_,rfl⟩
   have bw:A (Kept (f+1) (f+2) O2):=O (by rw[QV];exact(Ri.and (ym YT.1 YT.2.1)).and (Al (aw Qd) (aw Qd)));have bA:A (∀x,O2 x->jb w w x/\∀D'∈D2::[D1],x.heap[D']?=T (.deferred (T []))/\w.heap.size<=D'):=O (by
    rw[QV];intro x h;refine⟨(H x h.1.1).1,λD' cp=>?_⟩
    rcases jw.1 cp with rfl|D
    ·exact⟨h.1.2,YT.2.2⟩
    exact(H x h.1.1).2 D' D)
   have P9:A (∀x,O2 x->H2<=x.heap.size/\∃us,ah (λg=>M2<=g/\g<H2) x (hH b7 r2.length cc) 4 r2.length (cB Bx.cells r2 us)/\bH (λg=>M2<=g/\g<H2) x (r2.map Bx.body) us):=O (by rw[QV];exact λx h=>h.2);have b4:=O (λx (h:O2 x)=>Tk x (by rw[QV]at h;exact h.1.1));replace Tk:=b4;clear b4;have cw:=O (λx (h:O2 x)=>cq x (by rw[QV]at h;exact h.1.1));replace cq:=cw;clear cw;have eg:A (O2 W):=O (by rw[QV,bu];exact⟨⟨hO,bd⟩,jd _,O9⟩);have Qk:A (f+3<=M2/\M2<=H2):=O ⟨by rw[bv];exact Qd,by rw[bu];exact Q.row.sz'⟩;replace RF:=O YS;replace Ri:=bw;replace H:=bA;clear Q al TQ hO YT O9 bu QV YS bw bA cx b8 eb RP O4 Vu Tc YQ bh WO bk bl Qd HM b5 QL a4 ad bv b1 hD bd;rename hQ=>U8;refine bf _ _ ?_;clear bf K1;refine fX λK1 bf=>fX λK2 ds=>gY ?_
   have t:=O (vZ f (f+2) Y lg U8 ec c9.len);obtain⟨y,o⟩:=J (rL lg);have E:=O (λr (h:y=T r)=>c9.rL (r:=r) (by rw[<-o];exact h));rw[<-o]at t j;clear o
   go_wp2_with fail
   refine t.mono ?_;rintro e R6 ⟨n,P⟩;have eb:=O ((n.block (f+1) (je.1 cy).1 Y).trans cy);have b5:=O (Ri _ _ eg.out (Kp.ofR n));have bK:A (f+3<=R6.heap.size):=O (js ed n.size);clear n t eg cy ec c9 ed
   rcases y with _|r
   ·obtain rfl:e=.panicked bD:=P
    have F:ov=hF:=j.out;exact fE (Ds:=[D2,D1]) F (H _ b5.out).1 RF (H _ b5.out).2
   obtain⟨b8,lh⟩:=r;obtain⟨⟨B,ul,rfl,ck,bO,a3⟩,z⟩:=P;replace a3:ao (·<f) R6 (vL b8) ul:=a3;have bb:=E _ rfl;have cx:A (RdV f R6 (f+2) lh):=O z;have cy:A (SmL lh):=O bb.2;have RP:A (SmL b8):=O bb.1;replace j:=j.out;rw[jk]at j;replace j:=O j;dsimp only at j;have O4:=O bO;have Vu:=O a3;clear z E bb ck bO a3
   go_wp2_with fail
   refine uU ?_;obtain⟨M,hM⟩:=J R6.heap.size;have Qd:A (f+3<=M):=O (by rw[hM];exact bK);have HM:=O hM;obtain⟨U,SE⟩:∃b6:ih->Array ih,b6=λv=>(aj c6 ⟨hH br r1.length bs,hH b2 ip.length b3,hH b7 r2.length cc,v⟩).toArray:=⟨_,rfl⟩
   have bh:A (∀v,(U v)[38]?=T v):=O (λv=>by rw[SE];exact(kS _ _ _ _ _ V.1 V.2).2.2.1);have WO:A (∀v x,(U v).setIfInBounds 38 x=U x):=O (λv x=>by rw[SE];exact uT _ _ _ _ _ _ V.1);have bk:A (∀v,(U v).size=73):=O (λv=>by rw[SE];exact eO _ _ V.1 V.2);have YQ:A (R6.heap[f+1]?=T (hK (U (hH hF 0 0)) 31 (0,0))):=O (by rw[SE];exact eb);have bl:=O SE;have Tc:A (bF rWl b8=hF->ov=hF):=O (λh=>by have D:=j.out;rw[h]at D;exact D);clear hM SE eb;refine vv (fd:=Tryz.f28) (gf:=148) (lb:=#[ji (T ⟨B,0,hF⟩)]) func28 rfl (enters_of func148 ae rfl)
    (uH (N0:=f) (n₀:=f) (m₀:=M) (jd _) b8 RP.len B ul R6 (aw bK) (by rw[HM];exact jd _) O4 Vu) (aw bK) (λ_=>rfl) (wB (aw bK) b8)
    (λO5 W=>∃R vr us,bF rWl (O5.map (·.2))=T R/\bX M (f+1) 31 75 3 Wl.cells Wl.body U R6 W R.length vr R us) (λch W=>ch=bD/\ov=hF/\aD (f+1) M R6 W)
    (by rintro O5 a1 B' ⟨R,vr,us,h1,D⟩ ht;exact⟨R,vr,us,h1,D.rolls (by rw[HM];exact jd _) ht⟩)
    ⟨[],hH hF 0 0,[],rfl,bX.start YQ.out (by rw[HM];exact jd _)⟩
    (λtm x=>(tm.setIfInBounds 62 (ji (T ⟨x.1,0,hF⟩))).setIfInBounds 7 (ji (T ⟨x.1,0,hF⟩))) ?assign ?body ?done ?panic
   case assign=>
    intro l' x a1 K u
    gi_wp2
    exact u
   case panic=>
    rintro K ch W hD hP bd;have F:ch=bD/\ov=hF/\aD (f+1) M R6 W:=by
     rcases hP with h|⟨O5,⟨rfl,v,r,e,hk⟩,R,vr,us,h1,D⟩
     ·exact h
     exact⟨rfl,Tc.out (by rw[e];exact mw (.inl hk) h1),D.row.but⟩
    obtain⟨rfl,F,al⟩:=F;have hO:=Ri _ _ b5.out (Kp.ofC (by rw[<-HM];exact al));have YS:(K::[D2,D1]).Nodup:=jR.2 ⟨λh=>by have D:=((H _ b5.out).2 K h).1;have:=(je.1 D).1;omega,RF⟩;exact fE (Ds:=K::[D2,D1]) F (H _ hO).1 YS (λD' h=>by
     rcases jw.1 h with rfl|h
     ·exact⟨bd,by have:=bK.out;have:=UC.out;omega⟩
     exact(H _ hO).2 D' h)
   case body=>
    rintro l' O5 ⟨X,xv⟩ a1 ⟨R,vr,us,ad,Q⟩ ⟨-,⟨rr,SQ⟩,hx⟩ bc ⟨Q9,SR⟩;obtain⟨a4,cm,VO⟩:=hx O5 (X,xv) rfl;dsimp only at a4 cm VO SQ;simp only[jS,lv,ki,lo,jO,j6]at SQ;obtain⟨pX,dv,uX,Ww,-,-⟩:=id VO;obtain⟨pv,cv,rfl⟩:=aL Q.row.own;have WN:A (SmL xv.l):=O (RP.mem (by rw[SQ];simp));obtain⟨m,P⟩:=J R.length;have cA:m<=1000000:=by
     have h1:=se ad;have D:=congrArg jW SQ;have h3:=RP.len;simp at h1 D;omega
    obtain⟨oc,a5⟩:=J (rWl xv.l);have Qa:A (oc=hF->ov=hF):=O (λh=>Tc.out (by rw[SQ];exact mw (.inr (by rw[<-a5];exact h)) ad));have ZU:A (∀c,oc=T c->bF rWl ((O5++[(X,xv)]).map (·.2))=T (R++[c])):=O (λc h=>by rw[jS];exact rE ad a4 (by rw[<-a5];exact h));obtain⟨l0,bI⟩:=J xv.l;rw[<-bI]at a5 WN VO Ww;have q:A (oc=(rI l0).bind λa=>(rW a.2).map λw=>⟨a.1,w.1.1,w.1.2⟩):=O a5;rw[<-P]at Q;have R3:=O P;have Rf:=O Ww;have S:=O Q;obtain⟨z0,Pe⟩:=J a1.drew;have UT:A (z0.heap[f+1]?=T (hK (U (hH pv m cv)) 31 (0,0))):=O (by rw[Pe];exact Q.row.box);have bm:A (RdV f z0 X l0):=O (VO.keep (by rw[Pe];rfl) (λk _=>by rw[Pe];rfl));have bn:=WN;have Yb:A (aD X a1.heap.size a1 z0):=O (by rw[Pe];exact⟨rfl,rfl,rfl,jd _,λ_ _ _=>rfl⟩);have Vz:A (M<=a1.heap.size):=O Q.row.sz';have cL:=Qd.out;clear ad SQ hx SR a4 VO Ww P a5 bI Q WN bc Tc j O4 Vu;refine wpIn_block ?_;dsimp only;simp only[o4,jV,pa];refine tb (λW'=>W'.heap[f+1]?=T (hK (U (hH pv m cv)) 31 (0,0))) 10 [(0,true),(1,true),(2,true),(4,true),(3,false),(5,false),(6,true),(7,false),(8,false),(9,true),(10,false)] ae ae ae ae rfl (λc a d v w h=>⟨by have:=h.1;rwa [put_defers]at this,h.2⟩) (fun⟨_,_,h⟩=>h) (by rw[<-Pe];exact UT) ?_;rw[<-Pe];clear Pe;refine bY ?_
    (refine cR (v:=?_) rfl ag (λW' hS=>?_) ?_;rotate_left;(have cX:=cell_of hS (bh _);go_simp;with_reducible rfl);refine L ?_)
    iterate 2 refine bY ?_
    refine aS rfl (λK' u=>?_);go_simp;have t:=O (fA f X Y l0 z0 bm bn.len);obtain⟨y,o⟩:=J (rI l0);have E:=O (λr (h:y=T r)=>bn.rI (r:=r) (by rw[<-o];exact h));rw[<-o]at t q;clear o;refine t.mono ?_;rintro e z1 ⟨n,P6⟩;have Uj:=O (Yb.trans n Yb.size);have VM:=O ((n.block (f+1) (je.1 UT).1 Y).trans UT);clear n t Yb UT bm bn
    rcases y with _|r
    ·obtain rfl:e=.panicked bD:=P6
     have F:ov=hF:=Qa q;exact⟨rfl,gk Rf Uj,rfl,F,gP S.row.but Uj Y Vz⟩
    obtain⟨vk,l1⟩:=r;obtain⟨rfl,z⟩:=P6;have bo:A (RdV f z1 X l1):=O z;have bq:A (SmL l1):=O (E _ rfl);replace q:=q.out;rw[jk]at q;replace q:=O q;dsimp only at q;refine u _ _ VM.out λ_=>?_
    clear u z E;refine L ?_;refine aS rfl (λK' u=>?_);go_simp;have t:=O (Dc f X Y l1 z1 bo bq.len);obtain⟨y,o⟩:=J (rW l1);have E:=O (λr (h:y=T r)=>bq.rW (r:=r) (by rw[<-o];exact h));rw[<-o]at t q;clear o;refine t.mono ?_;rintro e z2 ⟨n,P6⟩;have VL:=O (Uj.trans n Uj.size);have bg:=O ((n.block (f+1) (je.1 VM).1 Y).trans VM);have cs:=O Uj.size;clear n t Uj VM bo bq
    rcases y with _|r
    ·obtain rfl:e=.panicked bD:=P6
     have F:ov=hF:=Qa q;exact⟨rfl,gk Rf VL,rfl,F,gP S.row.but VL Y Vz⟩
    obtain⟨vw,l2⟩:=r;obtain⟨⟨ub,rfl,b9⟩,z⟩:=P6;obtain⟨pb,cb,rfl⟩:=b9.form;have Sa:=O b9;obtain⟨Zy,bB⟩:=vw;dsimp only at Sa q z⊢;obtain⟨bC,ca⟩:=J bB.length;rw[<-ca]at Sa⊢;have S6:=O ca;clear ca b9;have ce:A (RdV f z2 X l2):=O z;have bT:A (SmL l2):=O (E _ rfl);replace q:=q.out;rw[jP]at q;replace q:=O q;dsimp only at q;refine u _ _ bg.out λ_=>?_
    clear u z E;refine L ?_;refine bY ?_;refine aS rfl (λK' u=>?_);go_simp;refine u _ _ (ak bg (af _ _)) λ_=>?_
    clear u;refine L ?_;have Ya:=S.laterX Y Y Rf G VL;have ba:=af z2 (hK #[I N vk,I N Zy,hH pb bC cb] 75);have aa:=Ya.later Y ba;have ct:=(ah.keep Sa (λg hg=>ba.block g hg.2)).mono (D':=λg=>M<=g/\g<(z2.alloc (hK #[I N vk,I N Zy,hH pb bC cb] 75)).heap.size/\(pz pv m cv).ownBlock≠T g) (λg hg=>⟨by have:=cs.out;have:=Vz.out;omega,jc hg.2 ba.size,bU S.row.own (.inl (aw cs))⟩);have c7:=O ct;clear ct;refine aS rfl (λK' u=>?_);rw[if_pos ag];refine zV _ _ rfl M (hH pv m cv) m _ rfl aa.row.own _ 1 [I N vk,I N Zy,hH pb bC cb] rfl (ei z2 [I N vk,I N Zy,hH pb bC cb] 75 (0,0) 3 1 1 rfl (jd _)) (by simp[jX]) Y aa.row.sz' λv' z7 Pz=>?_
    have QB:=dW aa.row.box Pz.grown (bU aa.row.own (.inr Y));obtain⟨pn,cn,rfl⟩:=aL Pz.own;have UD:=O QB;have Z5:=O Pz;have Tj:=O aa;clear Ya aa ba;refine u _ _ QB λ_=>?_
    clear u QB Pz;refine L ?_;refine bY ?_;obtain⟨⟨vo,c3⟩,f3,-,-⟩:=bP (i:=38) (hH pn (m+1) cn) UD.out (by rw[bk];decide);refine gq rfl (λK' u=>?_);go_simp;refine u _ _ ?_;have bM:=bX.push (i:=38) (x:=(⟨vk,Zy,bB⟩:Wl)) Tj Y (by show ah _ _ _ 1 bB.length (bB.map v8);rw[<-S6];exact c7) Z5 (WO _ _);have b0:=(gk (B0:=R6.heap.size) Rf VL).trans ((vM _ _ _).trans (wg Tj.row Z5 (i:=38)));refine⟨⟨b0,tT S.row.but bM.row.but b0.size Y Y⟩,R++[⟨vk,Zy,bB⟩],hH pn (m+1) cn,us++[hH pb bC cb],ZU _ q.out,?_⟩;rw[jF,<-R3];exact bM
   case done=>
    rintro K xs W hD ⟨QL,a4⟩ ⟨R,vr,us,ad,Q⟩ bd;rw[QL]at ad;obtain⟨aa,a1,rfl⟩:=aL Q.row.own;have al:=Q.row.but;replace j:=j.out;rw[ad,jk]at j;replace j:=O j;have TQ:aD (f+1) R6.heap.size R6 W:=by rw[<-HM];exact al
    have bb:A (RdV f W (f+2) lh):=O (cx.keep (TQ.block (f+2) cx.lt Y) (λk hk=>TQ.block k (a8 cx.lt) Y));have a5:=cy;have d:A (W.heap[f+1]?=T (hK (aj c6 ⟨hH br r1.length bs,hH b2 ip.length b3,hH b7 r2.length cc,hH aa R.length a1⟩).toArray 31 (0,0))):=O (by have h:=Q.row.box;rw[bl]at h;exact h);have hO:=Ri _ _ b5.out (Kp.ofC TQ);have bq:A (f+3<=W.heap.size):=O (js bK al.size);have YS:(K::[D2,D1]).Nodup:=jR.2 ⟨λh=>by have D:=((H _ b5.out).2 K h).1;have:=(je.1 D).1;omega,RF⟩;have YT:K≠f+1/\K≠f+2/\w.heap.size<=K:=by have:=bK.out;have:=UC.out;omega
    obtain⟨H3,bu⟩:=J W.heap.size;obtain⟨M3,bv⟩:=J M;obtain⟨X,b1⟩:=J R;rw[<-b1]at Q j d;rw[<-bv]at Q;have O9:∃us,ah (λg=>M3<=g/\g<W.heap.size) W (hH aa X.length a1) 3 X.length (cB Wl.cells X us)/\bH (λg=>M3<=g/\g<W.heap.size) W (X.map Wl.body) us:=Q.slice rfl (λg h1 D=>⟨h1,D⟩);obtain⟨O3,QV⟩:∃VK:hQ->Prop,VK=λx=>(O2 x/\x.heap[K]?=T (.deferred (T [])))/\(H3<=x.heap.size/\∃us,ah (λg=>M3<=g/\g<H3) x (hH aa X.length a1) 3 X.length (cB Wl.cells X us)/\bH (λg=>M3<=g/\g<H3) x (X.map Wl.body) us):=⟨_,rfl⟩
    have bw:A (Kept (f+1) (f+2) O3):=O (by rw[QV];exact(Ri.and (ym YT.1 YT.2.1)).and (Al (aw Qd) (aw Qd)));have bA:A (∀x,O3 x->jb w w x/\∀D'∈K::[D2,D1],x.heap[D']?=T (.deferred (T []))/\w.heap.size<=D'):=O (by
     rw[QV];intro x h;refine⟨(H x h.1.1).1,λD' cp=>?_⟩
     rcases jw.1 cp with rfl|D
     ·exact⟨h.1.2,YT.2.2⟩
     exact(H x h.1.1).2 D' D)
    have bm:A (∀x,O3 x->H3<=x.heap.size/\∃us,ah (λg=>M3<=g/\g<H3) x (hH aa X.length a1) 3 X.length (cB Wl.cells X us)/\bH (λg=>M3<=g/\g<H3) x (X.map Wl.body) us):=O (by rw[QV];exact λx h=>h.2);have b4:=O (λx (h:O3 x)=>Tk x (by rw[QV]at h;exact h.1.1));replace Tk:=b4;clear b4;have cw:=O (λx (h:O3 x)=>cq x (by rw[QV]at h;exact h.1.1));replace cq:=cw;clear cw;have q:=O (λx (h:O3 x)=>P9 x (by rw[QV]at h;exact h.1.1));replace P9:=q;clear q;have bg:A (O3 W):=O (by rw[QV,bu];exact⟨⟨hO,bd⟩,jd _,O9⟩);have QI:A (f+3<=M3/\M3<=H3):=O ⟨by rw[bv];exact Qd,by rw[bu];exact Q.row.sz'⟩;replace RF:=O YS;replace Ri:=bw;replace H:=bA;clear Q al TQ hO YT O9 bu QV YS bw bA cx b5 cy RP O4 Vu Tc YQ bh WO bk bl Qd HM bK QL a4 ad bv b1 hD bd;rename hQ=>Sn;refine bf _ _ ?_;clear bf K1;refine fX λK1 bf=>gY ?_
    obtain⟨Q,ad⟩:∃q:CQ,q=⟨hH br r1.length bs,hH b2 ip.length b3,hH b7 r2.length cc,hH aa X.length a1⟩:=⟨_,rfl⟩;rw[<-ad]at d;have bh:=O ad;clear ad;have t:=O (Br (f) (f+2) Y lh Sn bb a5.len);obtain⟨y,o⟩:=J (rD lh);have E:=O (λr (h:y=T r)=>a5.rD (r:=r) (by rw[<-o];exact h));rw[<-o]at t j;have QT:A (∀r,y=T r->r.1.length=32):=O (λr h=>(tM (by rw[<-o];exact h)).2);clear o
    go_wp2_with fail
    refine t.mono ?_;rintro e Tb ⟨n,P⟩;have ba:=O ((n.block (f+1) (je.1 d).1 Y).trans d);have a3:=O (Ri _ _ bg.out (Kp.ofR n));clear n t bg d bb a5
    rcases y with _|r
    ·obtain rfl:e=.panicked bD:=P
     have F:ov=hF:=j.out;exact fE (Ds:=[K,D2,D1]) F (H _ a3.out).1 RF (H _ a3.out).2
    obtain⟨d,li⟩:=r;obtain⟨rfl,z⟩:=P;have a4:A (RdV f Tb (f+2) li):=O z;have bg:A (SmL li):=O (E _ rfl);replace j:=j.out;rw[jk]at j;replace j:=O j;dsimp only at j;clear z E;have ad:A (d.length=32):=O (QT _ rfl);clear QT;have bc:(ja.info? 23).map (·.size)=T (d.map v8).toArray.size:=by rw[show(d.map v8).toArray.size=(d.map v8).length from jC ..,jr,ad];kernel_rfl
    have cf:Tb.there (f+1) 39 (d.map v8).toArray.size:=lT ba.out (by rw[eO _ _ V.1 V.2,show(d.map v8).toArray.size=(d.map v8).length from jC ..,jr,ad];decide);have g2:=yC (d.map v8) 39 _ _ ba.out;rw[Ob _ _ _ V.1 V.2 ad]at g2;have Qb:=EJ (f+1) Tb.heap.size (d.map v8) 39 Tb;have a5:=O g2;have bb:=O (a4.keep (w':=Tb.setCells (f+1) 39 (d.map v8)) (Qb.block (f+2) a4.lt Y) (λk hk=>Qb.block k (a8 a4.lt) Y));have k:=O (Ri _ _ a3.out (Kp.ofC Qb));have cd:=O cf;have Py:=O bc;clear g2 Qb cf bc ba a4 a3;have ba:=bg;clear bg
    go_wp2_with (refine jg rfl λ_ u=>qh 23 _ _ rfl (f+1) 39 (d.map v8).toArray rfl rfl cd Py (dA d) (u _ _ ?_);rw[show(d.map v8).toArray.toList=d.map v8 from rfl])
    generalize Tb.setCells (f+1) 39 (d.map v8)=TI at a5 bb k⊢;have a3:=a5;have bg:=bb;have bk:=k;clear a5 bb k cd Py;obtain⟨c7,a4⟩:∃c:Cmt,c={c6 with confirm:=d}:=⟨_,rfl⟩;rw[<-a4]at a3;have bl:=O a4;have k:A (c7.parent.length=32/\c7.confirm.length=32):=O (by rw[a4];exact⟨V.1,ad⟩);clear a4;refine fX λK1 bf=>gY ?_
    have t:=O (fA (f) (f+2) Y li TI bg ba.len);obtain⟨y,o⟩:=J (rI li);have E:=O (λr (h:y=T r)=>ba.rI (r:=r) (by rw[<-o];exact h));rw[<-o]at t j;clear o
    go_wp2_with fail
    refine t.mono ?_;rintro e bb ⟨n,P⟩;have a5:=O ((n.block (f+1) (je.1 a3).1 Y).trans a3);have a4:=O (Ri _ _ bk.out (Kp.ofR n));clear n t bk a3 bg ba
    rcases y with _|r
    ·obtain rfl:e=.panicked bD:=P
     have F:ov=hF:=j.out;exact fE (Ds:=[K,D2,D1]) F (H _ a4.out).1 RF (H _ a4.out).2
    obtain⟨vr,lj⟩:=r;obtain⟨rfl,z⟩:=P;have bg:A (RdV f bb (f+2) lj):=O z;have ba:A (SmL lj):=O (E _ rfl);replace j:=j.out;rw[jk]at j;replace j:=O j;dsimp only at j;clear z E;have t:=O (fA (f) (f+2) Y lj bb bg ba.len);obtain⟨y,o⟩:=J (rI lj);have E:=O (λr (h:y=T r)=>ba.rI (r:=r) (by rw[<-o];exact h));rw[<-o]at t j;clear o
    go_wp2_with fail
    refine t.mono ?_;rintro e o ⟨n,P⟩;have bk:=O ((n.block (f+1) (je.1 a5).1 Y).trans a5);have a3:=O (Ri _ _ a4.out (Kp.ofR n));clear n t a4 a5 bg ba
    rcases y with _|r
    ·obtain rfl:e=.panicked bD:=P
     have F:ov=hF:=j.out;exact fE (Ds:=[K,D2,D1]) F (H _ a3.out).1 RF (H _ a3.out).2
    obtain⟨n,lk⟩:=r;obtain⟨rfl,z⟩:=P;have t:A (RdV f o (f+2) lk):=O z;have a4:A (SmL lk):=O (E _ rfl);replace j:=j.out;rw[jP]at j;replace j:=O j;dsimp only at j;clear z E;have bN:=fun(c:Cmt) (q:CQ) (h1:c.parent.length=32) (D:c.confirm.length=32)=>eO c q h1 D
    obtain⟨⟨v0,c0⟩,f0,g0,o0⟩:=bP (i:=71) (I N vr) bk.out (by rw[bN _ _ k.1 k.2];decide);rw[MR _ _ _ k.1 k.2]at g0;obtain⟨⟨v1,c1⟩,f1,g1,o1⟩:=bP (i:=72) (I N n) g0 (by rw[bN {c7 with r:=vr} Q k.1 k.2];decide);rw[Nw {c7 with r:=vr} Q n k.1 k.2]at g1;have Qb:aD (f+1) o.heap.size o ((o.setCell ⟨f+1,71,hF⟩ (I N vr)).setCell ⟨f+1,72,hF⟩ (I N n)):=(oQ (f+1) o.heap.size 71 (I N vr) o).trans (oQ (f+1) o.heap.size 72 (I N n) _) (jd _);have z:=O g1;have F:=O (Ri _ _ a3.out (Kp.ofC Qb));clear g0 g1 o0 o1 Qb bk t a3 a4 bN
    go_wp2_with fail
    generalize(o.setCell ⟨f+1,71,hF⟩ (I N vr)).setCell ⟨f+1,72,hF⟩ (I N n)=Yc at z F⊢;have E:=z;have t:=F;clear z F c0 f0 c1 f1;obtain⟨z,F⟩:∃c:Cmt,c=⟨va,vb,vp,vd,r1,ip,r2,X,d,vr,n⟩:=⟨_,rfl⟩;have e8:aj {c7 with r:=vr,s:=n} Q=aj z Q:=by rw[F,bl,dr];rfl
    replace E:Yc.heap[f+1]?=T (hK (aj z Q).toArray 31 (0,0)):=by rw[<-e8];exact E
    have a3:az (λg=>w.heap.size<=g/\g<Yc.heap.size) Yc z Q:=by
     rw[F,bh];have a4:=Tk _ t.out;have a5:=cq _ t.out;obtain⟨s3,ba,bg,bk⟩:=P9 _ t.out;obtain⟨s4,bn,bo,b4⟩:=bm _ t.out;have h0:=UC.out;have h1:=Ro.out;have D:=em.out;have h3:=Qk.out;have h4:=QI.out;have h5:=V.1;refine⟨a4.2.mono λg hg=>?_,a5.2.mono λg hg=>?_,⟨ba,bg.mono λg hg=>?_,bk.mono λg hg=>?_⟩,⟨bn,bo.mono λg hg=>?_,b4.mono λg hg=>?_⟩,?_,ad⟩
     ·exact⟨by omega,by omega⟩
     ·exact⟨by omega,by omega⟩
     ·exact⟨by omega,by omega⟩
     ·exact⟨by omega,by omega⟩
     ·exact⟨by omega,by omega⟩
     ·exact⟨by omega,by omega⟩
     have e:=congrArg Cmt.parent dr;rw[show({dG with folder:=va,epoch:=vb,parent:=vp,author:=vd}:Cmt).parent=vp from rfl]at e;rw[<-e];exact h5
    obtain⟨XR,g⟩:=J ((aj z Q).toArray);have a5:=E;have bc:(ja.info? 31).map (·.size)=T XR.size:=by rw[g,eO _ _ a3.plen a3.clen];exact dZ
    have ba:XR.all (·.oneCell')=true:=by rw[g,bh];exact mj _ _ _ _ _ _ _ _ _ _ _ _ _
    rw[<-g]at a5;have a4:=O a5;have Py:=O bc;have Rw:=O ba;have bk:=O a3;have bn:=O g;have bg:ov=T z:=by rw[j,F]
    have TJ:=O bg;clear a5 bc ba a3 g bg E e8 F j;refine gY ?_
    go_wp2_with (first|(refine j4 rfl 31 _ rfl (f+1) rfl 31 XR (0,0) _ a4.out jB rfl Py ?_)|(refine jg rfl λ_ u=>jl 31 _ _ rfl (f+1) XR rfl rfl 31 _ a4.out Py rfl Rw (u _ _ ?_)))
    rw[dq a4];exact Gt (C:=f+1) (Ds:=[K,D2,D1]) TJ (H _ t.out).1 RF (H _ t.out).2 (by rw[<-bn];exact a4) rfl bk
end
theorem Dy{P:jH}{fn:Func}{p q:Tmp}{c f:ju}(h:fn.results= #[.cell p c,.cell q f])(tmps:Array ih)(w:hQ)(g i:Nat)(t:ju)(cs:Array ih)(x:ih)(fr:Nat×Nat)(d:TypeDesc)
 (j:tmps.getD p hU=ji (T ⟨g,0,hF⟩)) (k:tmps.getD q hU=ji (T ⟨i,0,hF⟩)) (l:w.heap[g]?=T (hK cs t fr)) (m:(loadVar f ⟨i,0,hF⟩).run P w=.ok x w)
 (n:P.underlying c=T d) (o:(match d with| .struct _ | .array _ _=>true|_=>false)=true) (r:(P.info? c).map (·.size)=T cs.size):
 (results fn tmps).run P w=.ok (jj #[hZ cs,x]) w:=by
 have e:(results fn tmps).run P w=((asAddr (tmps.getD p hU)).run P w).andThen λa s=>((loadVar c a).run P s).andThen λv u=>((asAddr (tmps.getD q hU)).run P u).andThen λb y=>((loadVar f b).run P y).andThen λz B=>.ok (jj #[v,z]) B:=by
  simp only[results,h];simp[Sem.run_bind,Result.andThen]
 rw[e,j];simp only[asAddr,Sem.run_pure,Result.andThen_ok,run_loadVar_row w g t c cs fr d l n o r,k,m]
theorem Bf{w:hQ}{g:Nat}{n:Int}{t:ju}{f:Nat×Nat}(h:w.heap[g]?=T (hK #[I N n] t f)):(loadVar 35 ⟨g,0,hF⟩).run ja w=.ok (I N n) w:=by
 have c:=cell_of (i:=0) h rfl;go_simp
def ZC:Array ih:=(aj dG eX).toArray
theorem mi:(ja.info? 31).map (·.size)=T ZC.size:=by kernel_rfl
theorem iM:ZC.size=73:=by rfl
theorem pS:ZC.all (·.oneCell')=true:=mj dG hF hF hF hF 0 0 0 0 0 0 0 0
theorem AO(w:hQ):(Instr.build 31 #[]).run ja w=.ok (hZ ZC) w:=by
 unfold Instr.build;go_simp
 rfl
theorem LS:∀W,(Instr.typeAssert (.iface 84 (hZ #[])) 20 84 true).run ja W=.ok (jj #[hZ #[],.bool true]) W:=λ_=>by kernel_rfl
theorem yw(C E:Nat)(w:hQ):CallsD ja 27 #[ji (T ⟨C,0,hF⟩),ji (T ⟨E,0,hF⟩)] .returning w λe b w'=>e=jf (jj #[])/\b=.returning/\w'=w:=by
 refine callsD_of_wpS func27 rfl λc cs a=>?_
 apply wpS_seq
 apply mz
 simp[wpOpsS,go_sem,recoverD,a,ntmps27,Exit.thenS]
 apply wpS_seq
 apply mz
 simp[wpOpsS,go_sem,recoverD,a,ntmps27,Exit.thenS];refine wpS_cond (t:=false) (by simp[Act.eval,jM]) ?_;simp only[Bool.false_eq_true,if_false];refine wpS_of_wp (wp_skip ?_)
 cases c
 simp_all [bodyPostS,results,results27]
theorem Gm(C E:Nat)(l:C≠E)(g:Array ih)(s:g.size=73)(x:ih)(m:List jY)(w:hQ)(d:w.heap[C]?=T (hK g 31 (0,0)))(f:w.heap[E]?=T (hK #[x] 35 (0,0))):
 CallsD ja 27 #[ji (T ⟨C,0,hF⟩),ji (T ⟨E,0,hF⟩)] (.panicking ({v:=.iface 84 (hZ #[]),recovered:=false}::m)) w λe u w'=>
  e=jf (jj #[])/\u=.panicking ({v:=.iface 84 (hZ #[]),recovered:=true}::m)/\w'.heap[C]?=T (hK ZC 31 (0,0))/\w'.heap[E]?=T (hK #[I N 220] 35 (0,0))/\
  (w'.os=w.os/\w'.tape=w.tape/\w'.output=w.output/\w.heap.size<=w'.heap.size/\∀k,k<w.heap.size->k≠C->k≠E->w'.heap[k]?=w.heap[k]?):=by
 refine callsD_of_wpS func27 rfl λy cs n=>?_
 apply wpS_seq
 apply mz
 simp[wpOpsS,go_sem,recoverD,n,ntmps27,Exit.thenS]
 apply wpS_seq
 apply mz
 simp[wpOpsS,go_sem,recoverD,n,ntmps27,Exit.thenS];refine wpS_cond (t:=true) (by simp[Act.eval,jM]) ?_;simp only[if_true];refine wpS_of_wp (show Code.wp _ _ _ {tmps:=#[ji (T ⟨C,0,hF⟩),ji (T ⟨E,0,hF⟩),.iface 84 (hZ #[]),hU,hU,.iface 84 (hZ #[]),.iface 84 (hZ #[]),.bool true,hU,hU,hU,hU,hU,hU,hU,hU,hU],defers:=[]} _ from ?_);have z:=LS;have B:=AO;have c:=af w (hK #[] 84);obtain⟨a,h⟩:=J (w.alloc (hK #[] 84));rw[<-h]at c;have o:=(c.block C (je.1 d).1).trans d;have p:=(c.block E (je.1 f).1).trans f;have j:=O o;have q:=O p;have b:=O c;have r:=O h;have D:=O (je.1 d).1;clear d f o p c h
 go_upto_region 3 with fail
 rw[<-r];clear r;have o:=(jz a C E ZC (Ne.symm l)).trans q;obtain⟨⟨S,F⟩,H,d,h⟩:=bP (i:=0) (I N 220) o av;have f:=(h.block C l).trans (jp a C _ ZC _ _ j.out);have p:=O f;have r:=O d;have c:=O h;clear o d h f
 go_wp2_with (refine jg rfl λ_ h=>jl 31 _ _ rfl C ZC rfl rfl 31 g j mi (s.trans iM.symm) pS (h _ _ ?_))
 have f:=p.out;have d:=r.out;have h:∀k,k<w.heap.size->k≠C->k≠E->((a.setRow C ZC).setCell ⟨E,0,hF⟩ (I N 220)).heap[k]?=w.heap[k]?:=λk hk o K=>(c.block k K).trans ((jz _ _ _ _ o).trans (b.block k hk))
 have M:w.heap.size<=((a.setRow C ZC).setCell ⟨E,0,hF⟩ (I N 220)).heap.size:=by rw[c.size,show(a.setRow C ZC).heap.size=a.heap.size by simp[lw]];exact b.size
 have P:=c.os.trans b.os;have Q:=c.tape.trans b.tape;have R:=c.output.trans b.output;generalize(a.setRow C ZC).setCell ⟨E,0,hF⟩ (I N 220)=U at f d h M P Q R⊢;clear F H c p r b j q D z B
 cases y
 simp_all [bodyPostS,results,results27]
def tY(w:hQ)(o:Option Cmt)(e:jU)(w':hQ):Prop:=
 jb w w w'/\match o with
  |some c=>∃q,e=jf (jj #[hZ (aj c q).toArray,I N 0])/\az (λg=>w.heap.size<=g/\g<w'.heap.size) w' c q
  |none=>∃n:Int,n≠0/\e=jf (jj #[hZ (aj dG eX).toArray,I N n])
theorem IA{l:LBy}{v:Val}(i:l.length<=800000)(h:dec l=T v):SmL v.l:=by
 obtain⟨e,c⟩:=zk Y h;obtain⟨k,n,s,a⟩:=v
 by_cases hk:k=3
 ·subst hk
  obtain⟨g,-,-,-,b⟩:=nR c rfl;refine⟨g,b,?_⟩;have d:enc (.mk 3 n s a)=3#8::(aX a.length++encs a):=by rw[enc,if_neg G,if_neg G]
  rw[d]at e;have f:=congrArg jW e;rw[kn,jF]at f;show(encs a).length<=_;omega
 have e:a=[]:=by
  rw[wfV]at c
  rcases c with⟨-,-,-,-,b⟩|⟨-,-,-,b⟩|⟨b,-⟩<;>first|exact b|exact absurd b hk
 subst e;exact⟨0,(λy b=>by cases b),by show(encs []).length<=_;simp[encs]⟩
theorem ah.bytesL{D:Nat->Prop}{w:hQ}{v:ih}{l:LBy}(h:ah D w v 1 l.length (l.map v8)):BytesAt w v l:=by
 obtain⟨-,p,c,b,d,f,i⟩:=h;refine⟨p,c,b,d,f,λk=>?_⟩;obtain⟨g,o,e,-,m⟩:=i k;refine⟨g,o,e,λj a=>m j _ ?_⟩;rw[ow,j0 a];simp[v8,mb,a]
theorem su{w x:hQ}{C E:Nat}{n:Int}{tmps:Array ih}(a:jb w w x)(b:x.heap[C]?=T (hK ZC 31 (0,0)))(c:x.heap[E]?=T (hK #[I N n] 35 (0,0)))(d:n≠0)
 (e:tmps.getD 2 hU=ji (T ⟨C,0,hF⟩)) (f:tmps.getD 3 hU=ji (T ⟨E,0,hF⟩)) {ov:Option Cmt} (g:ov=hF):Leaves ja Tryz.f8 tmps (tY w ov) [] .returning x:=by
 subst g;exact⟨_,Dy rfl _ _ C E 31 ZC _ (0,0) _ e f b (Bf c) jB rfl mi,a,n,d,rfl⟩
theorem Ey(l:LBy)(p:Option Addr)(n c:Nat)(w:hQ)(hv:ah (·<w.heap.size) w (hH p n c) 1 l.length (l.map v8))(hl:l.length<=800000):
 jh ja 8 #[hH p n c] w (tY w (eU l)):=by
 have bl:∀(fn:Fn) (first bc:Array ih) (w:hQ),(Instr.makeFunc fn first bc).run ja w=.ok (.func fn first bc) w:=λ_ _ _ _=>rfl
 have bv:=AO;obtain⟨ov,a⟩:=J (eU l);rw[<-a];have a4:A (dec l=hF->ov=hF):=O (λh=>by rw[a];unfold eU;rw[h];rfl);have Un:A (∀v,dec l=T v->fx v=hF->ov=hF):=O (λv h C=>by rw[a];unfold eU;rw[h,jk,C];rfl);have K:A (∀v c,dec l=T v->fx v=T c->eG c->enc (vL (aA c))=l->ov=T c):=O (λv c h C U b=>by rw[a];unfold eU;rw[h,jk,C,jk,if_pos ⟨U,b⟩]);have F:A (∀v c,dec l=T v->fx v=T c->¬(eG c/\enc (vL (aA c))=l)->ov=hF):=O (λv c h C U=>by rw[a];unfold eU;rw[h,jk,C,jk,if_neg U]);clear a;have d:=jo w (hK ZC 31);have m:=af w (hK ZC 31);have j:=jo (w.alloc (hK ZC 31)) (hK #[I N 0] 35);have o:=af (w.alloc (hK ZC 31)) (hK #[I N 0] 35);obtain⟨x1,k⟩:=J ((w.alloc (hK ZC 31)).alloc (hK #[I N 0] 35));obtain⟨a,q⟩:=J w.heap.size;replace d:=ak d o;rw[jN]at j;have e:=m.trans (o.mono m.size);rw[<-k,<-q]at d j;rw[<-k]at e;have t:ah (·<x1.heap.size) x1 (hH p n c) 1 l.length (l.map v8):=(hv.keep λg b=>e.block g b).mono λg (b:g<w.heap.size)=>jc b e.size
 have x:=O d;have Sl:=O j;have OZ:=O e;have y:=O k;have u:=O q;have HV:=O hv;have r:=O (Dl l p n c x1 t Y);obtain⟨od,s⟩:=J (dec l);rw[<-s]at r a4 Un K F;have ad:=O s;clear d j m o e hv t k q s
 go_enter_defers func8,ntmps8
 go_upto_region 1 with fail
 refine Bq (w':=x1) (y.trans rfl) ?_;rw[<-u];clear y
 go_wp2_with fail
 refine r.mono ?_;rintro e y ⟨d,hm⟩;have Pu:=Z x d;have W:=Z Sl d;have t:=ac OZ d;clear d r x
 rcases od with _|x
 ·obtain rfl:e=jf (jj #[hZ zeroV,I N 10]):=hm
  have z:=a4 rfl;have P:=O z;have j:=af y (hK zeroV 43);obtain⟨B,k⟩:=J (y.alloc (hK zeroV 43));rw[<-k]at j;have X:=ak Pu j;have aa:=ak W j;obtain⟨⟨v0,o⟩,r,al,m⟩:=bP (i:=0) (I N 10) aa av;have au:=(m.block a Y).trans X;have a1:=(t.trans (j.mono t.size)).trans (m.below (aw u));have D:=O au;have q:A ((B.setCell ⟨a+1,0,hF⟩ (I N 10)).heap[a+1]?=T (hK #[I N 10] 35 (0,0))):=O al;have H:=O a1;have E:=cell_of (i:=0) q rfl;have WY:=O k;have s:y.alloc (hK #[I N 0,I N 0,jv ⟨#[]⟩,hH hF 0 0] 43)=B:=k.symm;have HY:=O s;rw[WY]at o r E;clear z j X aa al m au a1 k s a4 Un K F Pu W t bl;rw[show(hZ zeroV:ih)=hZ #[I N 0,I N 0,jv ⟨#[]⟩,hH hF 0 0]from rfl];have s:(y.alloc (hK #[I N 0,I N 0,jv ⟨#[]⟩,hH hF 0 0] 43)).cell? ⟨a+1,0,hF⟩=T v0:=o;have M:(y.alloc (hK #[I N 0,I N 0,jv ⟨#[]⟩,hH hF 0 0] 43)).frozen? ⟨a+1,0,hF⟩=false:=r;have Q:((y.alloc (hK #[I N 0,I N 0,jv ⟨#[]⟩,hH hF 0 0] 43)).setCell ⟨a+1,0,hF⟩ (I N 10)).cell? ⟨a+1,0,hF⟩=T (I N 10):=E;clear o r E
  go_upto_region 3 with fail
  rw[HY];generalize B.setCell ⟨a+1,0,hF⟩ (I N 10)=x4 at D q H⊢;clear HY WY s M Q;obtain⟨V,s⟩:=J x4.drew;have M:A (V.heap[a]?=T (hK ZC 31 (0,0))):=O (by rw[s];exact D);have a2:A (V.heap[a+1]?=T (hK #[I N 10] 35 (0,0))):=O (by rw[s];exact q);have a5:A (jb w w V):=O (by rw[s];exact H.trans ⟨rfl,rfl,rfl,jd _,λ_ _=>rfl⟩);refine jI ?_;refine aY (λQ=>Q.heap[a]?=T (hK ZC 31 (0,0))/\Q.heap[a+1]?=T (hK #[I N 10] 35 (0,0))) (.take 0 (.take 1 (.one 2 (.one 3 .done)))) ae ae ae G (λ_ _ _ _ h=>h) (by rw[<-s];exact⟨M,a2⟩) ?_;rw[<-s];clear s D q H
  (refine ay (v:=hZ ZC) rfl ag (λQ s=>bJ jB rfl mi rfl rfl s.1) ?_;refine L ?_)
  (refine ay (v:=?_) rfl ag (λQ s=>?_) ?_;rotate_left;(have Q:=cell_of (i:=0) s.2 rfl;clear s;go_simp;with_reducible rfl);refine L ?_)
  refine ai rfl (λK' s=>?_);rw[if_pos ag];refine jl 31 _ _ rfl a ZC rfl rfl 31 ZC M mi rfl pS ?_;rw[dq M];refine s _ _ ⟨M,a2⟩ λ_=>?_
  clear s;refine L ?_;obtain⟨⟨v0,o⟩,r,ba,a3⟩:=bP (i:=0) (I N 10) a2 av;have Q:=O ((a3.block a Y).trans M);have R:A ((V.setCell ⟨a+1,0,hF⟩ (I N 10)).heap[a+1]?=T (hK #[I N 10] 35 (0,0))):=O ba;have S:=O (a5.trans (a3.below (aw u)));clear ba a3;refine ai rfl (λK' s=>?_);go_simp;refine s _ _ ⟨Q,R⟩ λ_=>?_
  clear s;refine L ?_;generalize V.setCell ⟨a+1,0,hF⟩ (I N 10)=z1 at Q R S⊢;clear o r M a2 a5;refine jG ?_
  go_wp2_with fail
  exact su S Q R G rfl rfl P
 obtain⟨bw,rfl,hu⟩:=hm;obtain⟨pu,cu,rfl⟩:=hu.form;have Sa:A (SmL x.l):=O (IA hl ad.symm);have a2:=Un;have Vy:=ad;obtain⟨xk,TZ⟩:=J x.k;obtain⟨xn,TT⟩:=J x.n;obtain⟨xs,QL⟩:=J x.s;obtain⟨xl,ba⟩:=J x.l.length;rw[<-TZ,<-TT,<-QL,<-ba];rw[<-ba]at hu;have YB:=O (And.intro TZ (And.intro TT QL));have j:=af y (hK #[I N xk,I N xn,jv xs,hH pu xl cu] 43);have a3:=jo y (hK #[I N xk,I N xn,jv xs,hH pu xl cu] 43);obtain⟨V,a5⟩:=J y.heap.size;rw[<-a5]at a3;obtain⟨B,k⟩:=J (y.alloc (hK #[I N xk,I N xn,jv xs,hH pu xl cu] 43));rw[<-k]at j a3;have bb:V<B.heap.size:=(je.1 a3).1;have bd:a+1<V:=by rw[a5];exact(je.1 W).1
 have X:=ak Pu j;have aa:=ak W j;obtain⟨⟨v0,o⟩,r,al,m⟩:=bP (i:=0) (I N 0) aa av;have au:=(m.block a Y).trans X;have bf:=(m.block V Y).trans a3;have a1:=(t.trans (j.mono t.size)).trans (m.below (aw u));have bg:ao (λg=>a+1<g/\g<y.heap.size) (B.setCell ⟨a+1,0,hF⟩ (I N 0)) x (hH pu xl cu):=ao.keep (λg b=>(m.block g Y).trans (j.block g b.2)) _ _ (ao.mono (λg b=>⟨by have:=(je.1 Sl).1;omega,b.2⟩) _ _ hu);have D:=O au;have M:=O bf;have q:A ((B.setCell ⟨a+1,0,hF⟩ (I N 0)).heap[a+1]?=T (hK #[I N 0] 35 (0,0))):=O al;have H:=O a1;have SZ:=O bg;have Q7:=O a5;have bh:=O bd;have bm:=O bb;have bk:(B.setCell ⟨a+1,0,hF⟩ (I N 0)).heap.size=B.heap.size:=rQ _ _ _;have QR:A (V<(B.setCell ⟨a+1,0,hF⟩ (I N 0)).heap.size):=O (by rw[bk];exact bb);have E:=cell_of (i:=0) q rfl;have WY:=O k;have HY:=O k.symm;rw[WY]at o r E;clear TZ TT QL ba j a3 a5 bb bd X aa al m au bf a1 bg k bk hu a4 Un Pu W t
 go_upto_region 4 with fail
 rw[HY,<-Q7];generalize B.setCell ⟨a+1,0,hF⟩ (I N 0)=x4 at D M q H SZ QR⊢;clear o r E HY WY bm;have o:=cell_of (i:=0) M rfl;have W:=cell_of (i:=1) M rfl;have X:=cell_of (i:=2) M rfl;have c3:=cell_of (i:=3) M rfl;obtain⟨oc,j⟩:=J (fx x);have E:=O j;have k:jh ja 28 #[hZ #[I N xk,I N xn,jv xs,hH pu xl cu]] x4 (o6 x4 oc):=by
  rw[j,YB.1,YB.2.1,YB.2.2];exact L3 x (hH pu xl cu) x4 (ao.mono (λg b=>by have:=Q7.out;have:=QR.out;omega) _ _ SZ.out) Sa
 have m:=O k;clear k j SZ Sa YB
 go_wp2_with fail
 refine m.mono ?_;rintro e t ⟨d,hm⟩;have Q:=Z D d;have YR:=Z M d;have R:=Z q d;have S:=ac H d;have T5:A (V<t.heap.size):=O (jc QR d.size);have au:=O d.size;clear d D M q H m o W X c3
 rcases oc with _|m
 ·obtain rfl:e=.panicked bD:=hm
  have z:ov=hF:=a2 x rfl E.symm;have P:=O z;clear z F K a2 E ad Vy;refine nn (f:=27) (args:=#[ji (T ⟨a,0,hF⟩),ji (T ⟨a+1,0,hF⟩)]) av (by simp[go_sem]) ?_;refine(Gm a (a+1) Y ZC iM _ _ t Q R).mono ?_;rintro e u' TM ⟨rfl,rfl,j,q,D,H,M,W,hk⟩;refine su (ov:=ov) (S.trans ⟨D,H,M,W,λk X=>hk k (a8 S.size) (aw u) (aw u)⟩) j q G rfl rfl P
 obtain⟨q,rfl,W⟩:=hm;have D:m.parent.length=32/\m.confirm.length=32/\dy (aA m):=by
  obtain⟨h1,C,U⟩:=wT hl Vy.symm E.symm;exact⟨C,U,h1⟩
 have bk:=O D;obtain⟨j,k⟩:=J ((aj m q).toArray);have C:j.size=73:=by rw[k];exact eO m q D.1 D.2.1
 have H:j.all (·.oneCell')=true:=by
  rw[k];obtain⟨M,U,X,vw⟩:=q;obtain⟨⟨-,p1,n1,rfl,-⟩,⟨-,p2,n2,rfl,-⟩,⟨us,⟨-,p3,n3,rfl,-⟩,-⟩,⟨vs,⟨-,p4,n4,rfl,-⟩,-⟩,-⟩:=W;exact mj _ _ _ _ _ _ _ _ _ _ _ _ _
 have HA:=O k;have Py:=O C;have ZH:=O H;have M:(ja.info? 31).map (·.size)=T j.size:=by rw[C];exact dZ
 have al:=O M;have U:=af t (hK ZC 31);have X:=jo t (hK ZC 31);have VJ:=O X;rw[<-k];clear D k C H M X
 go_upto_region 6 with(refine jg rfl λ_ s=>?_;refine jl 31 _ _ rfl t.heap.size j rfl rfl 31 ZC VJ al (iM.trans Py.symm) ZH (s _ _ ?_))
 obtain⟨C,k⟩:=J ((t.alloc (hK ZC 31)).setRow t.heap.size j);obtain⟨X,H⟩:=J t.heap.size;have a1:C.heap[X]?=T (hK j 31 (0,0)):=by rw[k,H];exact jp _ _ _ _ _ _ VJ.out
 have a3:∀g,g<t.heap.size->C.heap[g]?=t.heap[g]?:=λg b=>by rw[k];exact(jz _ _ _ _ Y).trans (U.block g b)
 have a5:C.heap.size=t.heap.size+1:=by rw[k];simp[lw,jN]
 have M:jb t t C:=by rw[k];exact jq U (jd _) j
 have ba:=Z Q M;have Zx:=Z R M;have aa:=O a1;have RX:=ac S M;have Zz:A (az (λg=>a+1<g/\g<X) C m q):=O ((W.keep λg b=>a3 g b.2).mono λg b=>⟨by have:=b.1;have:=QR.out;have:=bh.out;have:=au.out;omega,by rw[H];exact b.2⟩);have D:A (a+1<X/\X<C.heap.size):=O ⟨by have:=bh.out;have:=T5.out;omega,by omega⟩;have a4:=O k;refine Bq (w':=C) (a4.trans rfl) ?_;rw[<-H];clear k H a1 a3 a5 M U W a4 VJ Q YR R S T5 au QR;have k:jh ja 6 #[hZ j] C (uz m C):=by
  rw[HA];exact rl m q C (Zz.mono λg b=>Nat.lt_trans b.2 D.2) bk.2.2
 have M:=O k;clear k
 go_wp2_with (refine j4 rfl 31 _ rfl X rfl 31 j (0,0) _ aa.out jB rfl al ?_)
 refine M.mono ?_;rintro e k ⟨a1,a3,d⟩;have H:=Z ba d;have a4:=Z Zx d;have bm:=Z aa d;have Qg:=ac RX d;have bn:A (az (λg=>a+1<g/\g<X) k m q):=O (Zz.keep λg b=>d.block g (Nat.lt_trans b.2 D.2));have bo:A (a+1<X/\X<k.heap.size):=O ⟨D.1,jc D.2 d.size⟩;have a5:A (BytesAt k (hH p n c) l):=O ((HV.keep λg b=>Qg.block g b).bytesL);clear d ba Zx aa RX Zz D M
 by_cases U:eG m
 ·obtain⟨v,rfl,hv⟩:=a1 U
  have d:=O (BytesAt.of_own hv);obtain⟨pe,ce,bq⟩:∃(pe:Option Addr) (ce:Nat),v=hH pe (enc (vL (aA m))).length ce:=by
   obtain⟨pe,ce,h1,-⟩:=d.out;exact⟨pe,ce,h1⟩
  subst bq;obtain⟨D,W⟩:=J (decide (enc (vL (aA m))=l));have WV:A (jh ja 29 #[hH pe (enc (vL (aA m))).length ce,hH p n c] k λe w'=>e=jf (.bool D)/\k=w'):=O (by rw[W];exact Mh _ _ _ _ k d a5);obtain⟨M,hM⟩:=J ((enc (vL (aA m))).length);rw[<-hM]at WV⊢;have WB:=O W;clear hv W a1 a3 d a5 hM
  rcases D with _|_
  ·have z:ov=hF:=F x m rfl E.symm (λh=>by have:=WB.out;rw[eq_comm,decide_eq_false_iff_not]at this;exact this h.2)
   have P:=O z;clear z F K a2 E ad Vy WB U
   go_upto_region 8 with(refine WV.mono ?_;rintro e x9 ⟨rfl,rfl⟩)
   have W:k.setRow a ZC=k:=dq H;obtain⟨⟨v0,o⟩,r,d,aa⟩:=bP (i:=0) (I N 220) a4 av;have RR:=O ((aa.block a Y).trans H);have ba:A ((k.setCell ⟨a+1,0,hF⟩ (I N 220)).heap[a+1]?=T (hK #[I N 220] 35 (0,0))):=O d;have Qx:=O (Qg.trans (aa.below (aw u)));rw[<-W]at o r;have bb:=O W;clear d aa W
   go_wp2_with (refine jg rfl λ_ s=>jl 31 _ _ rfl a ZC rfl rfl 31 ZC H mi rfl pS (s _ _ ?_))
   rw[bb];refine nn (f:=27) (args:=#[ji (T ⟨a,0,hF⟩),ji (T ⟨a+1,0,hF⟩)]) av (by simp[go_sem]) ?_;refine(yw a (a+1) _).mono ?_;rintro e u' TM ⟨rfl,rfl,rfl⟩;refine su (ov:=ov) Qx RR ba G rfl rfl P
  have au:ov=T m:=K x m rfl E.symm U (of_decide_eq_true WB.symm);have Ph:=O au;clear au F K a2 E ad Vy WB U
  go_upto_region 9 with(refine WV.mono ?_;rintro e x9 ⟨rfl,rfl⟩)
  have bd:(k.setRow a j).heap[a]?=T (hK j 31 (0,0)):=jp _ _ _ _ _ _ H.out;have d:=(jz k a (a+1) j Y).trans a4;obtain⟨⟨v0,o⟩,r,bf,au⟩:=bP (i:=0) (I N 0) d av;have br:=O ((au.block a Y).trans bd);have bs:A (((k.setRow a j).setCell ⟨a+1,0,hF⟩ (I N 0)).heap[a+1]?=T (hK #[I N 0] 35 (0,0))):=O bf;have Y4:=O ((jq Qg (jD u.symm) j).trans (au.below (aw u)));have bg:((k.setRow a j).setCell ⟨a+1,0,hF⟩ (I N 0)).heap.size=k.heap.size:=by rw[rQ];simp[lw]
  have bu:A (az (λg=>w.heap.size<=g/\g<((k.setRow a j).setCell ⟨a+1,0,hF⟩ (I N 0)).heap.size) ((k.setRow a j).setCell ⟨a+1,0,hF⟩ (I N 0)) m q):=O ((bn.keep λg b=>(au.block g Y).trans (jz _ _ _ _ Y)).mono λg b=>⟨by have:=u.out;omega,by rw[bg];have:=bo.out;omega⟩);clear bd d bf au bg
  go_wp2_with (first|(refine j4 rfl 31 _ rfl X rfl 31 j (0,0) _ bm.out jB rfl al ?_)|(refine jg rfl λ_ s=>jl 31 _ _ rfl a j rfl rfl 31 ZC H al (iM.trans Py.symm) ZH (s _ _ ?_)))
  refine nn (f:=27) (args:=#[ji (T ⟨a,0,hF⟩),ji (T ⟨a+1,0,hF⟩)]) av (by simp[go_sem]) ?_;refine(yw a (a+1) _).mono ?_;rintro e u' TM ⟨rfl,rfl,rfl⟩;rw[Ph];exact⟨_,Dy rfl _ _ a (a+1) 31 j _ (0,0) _ rfl rfl br (Bf bs) jB rfl al,Y4,q,by rw[HA],bu⟩
 obtain rfl:=a3 U;have z:ov=hF:=F x m rfl E.symm (λh=>U h.1);have P:=O z;clear z F K a2 E ad Vy U a1 a3 a5
 go_upto_region 8 with fail
 have W:k.setRow a ZC=k:=dq H;obtain⟨⟨v0,o⟩,r,d,aa⟩:=bP (i:=0) (I N 220) a4 av;have RR:=O ((aa.block a Y).trans H);have ba:A ((k.setCell ⟨a+1,0,hF⟩ (I N 220)).heap[a+1]?=T (hK #[I N 220] 35 (0,0))):=O d;have Qx:=O (Qg.trans (aa.below (aw u)));rw[<-W]at o r;have bb:=O W;clear d aa W
 go_wp2_with (refine jg rfl λ_ s=>jl 31 _ _ rfl a ZC rfl rfl 31 ZC H mi rfl pS (s _ _ ?_))
 rw[bb];refine nn (f:=27) (args:=#[ji (T ⟨a,0,hF⟩),ji (T ⟨a+1,0,hF⟩)]) av (by simp[go_sem]) ?_;refine(yw a (a+1) _).mono ?_;rintro e u' TM ⟨rfl,rfl,rfl⟩;refine su (ov:=ov) Qx RR ba G rfl rfl P
theorem JV:aN 4:=by
 refine⟨by decide,by decide,?_⟩;rw[<-s8 _ QN 62 G]
 decide+kernel
theorem NN:aN 16:=by
 refine⟨by decide,by decide,?_⟩;rw[<-s8 _ QN 62 G]
 decide+kernel
theorem Ja{d:Int}(a:0<=d)(b:d<512)(x:Int):gW (512+d) x=decide (x∈(512+d)::aR d):=by
 by_cases h:x∈(512+d)::aR d
 ·rw[decide_eq_true h,rt ((mR d a b x).1 h)]
 rw[decide_eq_false h,AW (λc=>h ((mR d a b x).2 c))]
def nz:List (Int×Int)->Bool
 |[]=>true
 |[_]=>true
 |x::y::r=>decide (x.1<y.1)&&nz (y::r)
theorem DV:∀{t:List (Int×Int)} {x:Int×Int},nz (x::t)=true->∀e∈t,x.1<e.1
 |[],x,_,e,he=>by cases he
 |y::r,x,h,e,he=>by
  simp only[nz,jT,decide_eq_true_eq]at h
  rcases jw.1 he with rfl|he
  ·exact h.1
  have:=DV h.2 e he;omega
theorem Dg:∀{t:List (Int×Int)},nz t=true->Str t
 |[],_=>List.Pairwise.nil
 |[x],_=>List.pairwise_singleton _ _
 |x::y::r,h=>by
  refine List.pairwise_cons.2 ⟨DV h,Dg ?_⟩;simp only[nz,jT]at h;exact h.2
def A5(t:List (Int×Int)):Bool:=
 nz t&&t.all λe=>decide (1<=e.1)&&decide (e.1<=1023)&&(decide (e.2=4)||decide (e.2=16))&&t.any λf=>decide (512<=f.1)&&decide (f.1<=1023)&&decide (e.1∈f.1::aR (f.1-512))
theorem LJ{t:List (Int×Int)}(h:A5 t=true):Good t:=by
 unfold A5 at h;simp only[jT,qw,List.any_eq_true,decide_eq_true_eq,qx]at h;refine⟨Dg h.1,λe he=>?_⟩;obtain⟨⟨⟨b,c⟩,a⟩,f,d,⟨g,j⟩,i⟩:=h.2 e he;refine⟨b,c,?_,f,d,g,?_⟩
 ·rcases a with a|a
  ·rw[a];exact JV
  rw[a];exact NN
 have:=(mR (f.1-512) Y Y e.1).1;rw[show 512+(f.1-512)=f.1 by omega]at this;exact this i
theorem sJ:cK []=0:=pA (LJ (by decide+kernel))
theorem r6(n:Nat):aN ((aG 4 n:Nat):Int):=mQ (a:=4) kV n
def cV(d:Nat):Chg:=⟨1,(d:Int),((aG 4 (1000+d):Nat):Int),((aG 4 (100+d):Nat):Int),0⟩
theorem wZ{d:Nat}(h:d<512):pG (cV d):=⟨⟨by show(0:Int)<=(d:Int);omega,by show(d:Int)<512;omega⟩,.inl ⟨rfl,r6 _,r6 _,rfl⟩⟩
def bZ:Grp:=⟨3,0,dh,[],[]⟩
def df:List Chg:=[cV 4,cV 7]
theorem sl:aU []=[]:=by decide+kernel
theorem NA{t:List (Int×Int)}{d:Int}(a:cK t=0)(b:0<=d)(c:d<512):cQ t d false=0:=by
 unfold cQ;rw[if_pos a,if_neg];rintro(h|h|⟨h,-⟩)
 ·omega
 ·omega
 cases h
theorem BE{t:List (Int×Int)}{d x:Int}(a:cK t=0)(b:0<=d)(c:d<512)(e:aN x):eQ t d x=0:=by
 unfold eQ;rw[if_pos (NA a b c),if_pos (fq e)]
theorem Ez{f:Int}(a:gy f):cG ⟨f,0,dh,[],[]⟩ where
 fol:=a
 ep:=⟨Int.le_refl _,by show(0:Int)<=1099511627776;omega⟩
 tree:=sJ
 zero:=λ_=>⟨rfl,rfl⟩
 dev:=sl.symm
 ok:=λm b=>by cases b
theorem Cm:cG bZ:=Ez G
theorem Cz:cG eH:=Ez (f:=0) G
theorem wv:dD df:=⟨λx a=>by
 simp only[df,jw,j1,or_false]at a
 rcases a with rfl|rfl
 ·exact wZ G
 exact wZ G,by simp[df,cV],by simp[df]⟩
theorem tU:dD [cV 4]:=⟨λx a=>by
 simp only[jw,j1,or_false]at a;subst a;exact wZ G,by simp,by simp⟩
theorem NM:eS bZ 4 df:=⟨rfl,λ_=>⟨_,_,rfl,rfl⟩,λx a=>by
 simp only[df,jw,j1,or_false]at a
 rcases a with rfl|rfl
 ·exact⟨rfl,(λh=>by cases h)⟩
 exact⟨rfl,(λh=>by cases h)⟩⟩
theorem Gx:eS bZ 4 [cV 4]:=⟨rfl,λ_=>⟨_,_,rfl,rfl⟩,λx a=>by
 simp only[jw,j1,or_false]at a;subst a;exact⟨rfl,λh=>by cases h⟩⟩
theorem uu:ci bZ 4 df=0:=lY.2 ⟨Cm,wv,NM⟩
theorem Bg:ci bZ 4 [cV 4]=0:=lY.2 ⟨Cm,tU,Gx⟩
theorem Cs{a:Int}{l:List Chg}(h:¬eS eH a l):ci eH a l=221:=by
 unfold ci;rw[if_pos Cz,if_neg (λb=>h b.2)]
theorem IE:ci eH 3 [cV 4]=221:=Cs λh=>by
 obtain⟨x,r,e,a⟩:=h.first rfl;injection e with b c
 rw[<-b]at a;exact absurd a G
theorem H8(a:Int):ci eH a []=221:=Cs λh=>by
 obtain⟨x,r,e,b⟩:=h.first rfl
 cases e
theorem JC:ln bZ 4 104 df=0:=by
 unfold ln;rw[if_neg (by show ¬(1099511627776:Int)<=0;omega),if_neg (λh=>h uu),if_neg Y,if_neg (λh=>h rfl)]
theorem De:ln eH 3 103 [cV 4]=221:=by
 unfold ln;rw[if_neg (by show ¬(1099511627776:Int)<=0;omega),IE,if_pos G]
theorem EH:en dG=220:=by
 rcases yu dG with⟨h,-⟩|⟨-,h⟩
 ·exact absurd h.ep.1 G
 exact h
theorem CZ:ey eH dG=220:=by
 unfold ey;rw[vC.2 Cz,if_neg G,EH,if_pos G]
theorem wn:aJ [] [cV 4]=[(516,((aG 4 1004:Nat):Int))]:=by
 have a:eQ [] 4 ((aG 4 1004:Nat):Int)=0:=BE sJ G G (r6 _);show eC [] (cV 4)=_;unfold eC;rw[if_neg G];show ia [] 4 ((aG 4 1004:Nat):Int)=_;unfold ia;rw[if_pos a]
 rfl
theorem zI:Good (aJ [] [cV 4]):=by
 have h:=(mJ [cV 4] [] (kC sJ) ⟨λx a=>tU.each x a,tU.once,λx a=>by
  simp only[jw,j1,or_false]at a;subst a;exact⟨(λh=>by rw[sl]at h;cases h),(λh=>absurd rfl h)⟩⟩).1
 exact h
theorem Ii:Good (aJ [] df):=by
 have h:=(mJ df [] (kC sJ) ⟨λx a=>wv.each x a,wv.once,λx a=>by
  simp only[df,jw,j1,or_false]at a
  rcases a with rfl|rfl
  ·exact⟨(λh=>by rw[sl]at h;cases h),(λh=>absurd rfl h)⟩
  exact⟨(λh=>by rw[sl]at h;cases h),(λh=>absurd rfl h)⟩⟩).1
 exact h
theorem NB:aJ [] df=[(516,((aG 4 1004:Nat):Int)),(519,((aG 4 1007:Nat):Int))]:=by
 have a:=pA zI;rw[wn]at a;have b:eQ [(516,((aG 4 1004:Nat):Int))] 7 ((aG 4 1007:Nat):Int)=0:=BE a G G (r6 _);have e:aJ [] df=eC (aJ [] [cV 4]) (cV 7):=rfl;rw[e,wn];unfold eC;rw[if_neg G];show ia [(516,((aG 4 1004:Nat):Int))] 7 ((aG 4 1007:Nat):Int)=_;unfold ia;rw[if_pos b];have c:gW (512+7) 516=false:=by rw[Ja G G];decide+kernel
 have d:cY [(516,((aG 4 1004:Nat):Int))] 7=[(516,((aG 4 1004:Nat):Int))]:=by
  unfold cY;rw[qy (by rw[c];rfl)]
  rfl
 rw[d];generalize((aG 4 1004:Nat):Int)=p;generalize((aG 4 1007:Nat):Int)=q;show(if(519:Int)<516 then _ else _)=_;rw[if_neg G]
 rfl
theorem iZ{t:List (Int×Int)}(h:Good t){x:Int}(a:1<=x)(b:x<=1023):dQ t x=cF (ofF t) (hgt x.toNat) x.toNat:=by
 have e:iL t x=0:=by unfold iL;rw[if_pos (pA h),if_neg Y]
 unfold dQ;rw[if_pos e]
theorem Md:gu 4=[517,259,128,65,33,17,9,5,3]:=by decide+kernel
theorem Ox:∀p:Int,(([517,259,128,65,33,17,9,5,3]:List Int).map λx=>cF (ofF [(516,p)]) (hgt x.toNat) x.toNat)=[[],[],[],[],[],[],[],[],[]]:=by
 intro p;kernel_rfl
theorem Jo:∀p q:Int,(([517,259,128,65,33,17,9,5,3]:List Int).map λx=>cF (ofF [(516,p),(519,q)]) (hgt x.toNat) x.toNat)=[[],[519],[],[],[],[],[],[],[]]:=by
 intro p q;kernel_rfl
theorem C6{t:List (Int×Int)}(h:Good t){r:List (List Int)}(a:(([517,259,128,65,33,17,9,5,3]:List Int).map λx=>cF (ofF t) (hgt x.toNat) x.toNat)=r):
 dF t 4=(r.zipIdx 1).flatMap λx=>x.1.map λn=>((x.2:Int),n):=by
 unfold dF eu;rw[Md,<-a];simp only[lv,ki,List.zipIdx_cons,List.zipIdx_nil,ms,p6];rw[iZ h (x:=517) G G,iZ h (x:=259) G G,iZ h (x:=128) G G,iZ h (x:=65) G G,iZ h (x:=33) G G,
  iZ h (x:=17) G G,iZ h (x:=9) G G,iZ h (x:=5) G G,iZ h (x:=3) G G]
theorem MP:dF (aJ bZ.tree df) 4=[(2,519)]:=by
 show dF (aJ [] df) 4=_;have a:(([517,259,128,65,33,17,9,5,3]:List Int).map λx=>cF (ofF (aJ [] df)) (hgt x.toNat) x.toNat)=[[],[519],[],[],[],[],[],[],[]]:=by rw[NB];exact Jo _ _
 rw[C6 Ii a]
 rfl
theorem Fz:dc bZ 4 [cV 4]=[]:=by
 rw[ru Bg];show dF (aJ [] [cV 4]) 4=_;have a:(([517,259,128,65,33,17,9,5,3]:List Int).map λx=>cF (ofF (aJ [] [cV 4])) (hgt x.toNat) x.toNat)=[[],[],[],[],[],[],[],[],[]]:=by rw[wn];exact Ox _
 rw[C6 zI a]
 rfl
theorem Fc:di 4 df=[cV 7]:=by
 unfold di;have e:(df.filter λx=> !kI 4 x)=[cV 7]:=by
  unfold df kI;rw[List.filter_cons_of_neg G,qy G,List.filter_nil]
 rw[e];simp[eV]
noncomputable def c47:Cmt:=mkC bZ 4 104 df (1#8::kl 31 0#8) (2#8::kl 31 0#8) (3#8::kl 31 0#8)
theorem m7:wR bZ c47:=yM uu (by show(0:Int)<1099511627776;omega) rfl rfl
theorem lJ:fh c47:=Dn uu (by show(0:Int)<1099511627776;omega) rfl rfl rfl
theorem J4:ey bZ c47=0:=Ft.2 m7
theorem I2:c47.box.length=1:=by
 have h:=congrArg jW m7.box;rw[jr]at h;rw[h];have e:c47.chg=df/\c47.author=4:=⟨rfl,rfl⟩;rw[e.1,e.2,MP]
 rfl
theorem Hu:c47.wel.length=1:=by
 have h:=congrArg jW m7.wel;rw[jr,jr]at h;have e:c47.chg=df/\c47.author=4:=⟨rfl,rfl⟩;rw[h,e.1,e.2,Fc]
 rfl
theorem Jn:(dx bZ c47).mem=[⟨4,1,((aG 4 104:Nat):Int)⟩,⟨7,1,((aG 4 107:Nat):Int)⟩]:=by
 show gD (gM [] df (0+1))=_;have e:gM [] df (0+1)=[⟨4,1,((aG 4 104:Nat):Int)⟩,⟨7,1,((aG 4 107:Nat):Int)⟩]:=rfl;rw[e];unfold gD;refine List.mergeSort_of_pairwise ?_;simp
theorem MI:eU (enc (vL (aA c47)))=T c47:=AF c47 lJ.plen lJ.clen lJ.encOk m7.chk
theorem DR:(ja.info? 59).map (·.size)=T 5:=by kernel_rfl
theorem yF(d:Nat)(o:d<512)(w:hQ):jh ja 13 #[I N d] w λe w'=>e=jf (hZ (cV d).cells.toArray)/\jb w w w':=by
 have j:=af w (hK #[I N 0,I N 0,I N 0,I N 0,I N 0] 59);have a:=jo w (hK #[I N 0,I N 0,I N 0,I N 0,I N 0] 59);obtain⟨b,c⟩:=J w.heap.size;rw[<-c]at a;have h:(1000+(d:Int))=((1000+d:Nat):Int):=Y;have i:(100+(d:Int))=((100+d:Nat):Int):=Y;have f:A (∀W,jh ja 37 #[I N (1000+(d:Int))] W λe w'=>e=jf (jj #[I N (aG 4 (1000+d):Nat),I N 0])/\jb W W w'):=O (λW=>by rw[h];exact sA (1000+d) Y Y W);have g:A (∀W,jh ja 37 #[I N (100+(d:Int))] W λe w'=>e=jf (jj #[I N (aG 4 (100+d):Nat),I N 0])/\jb W W w'):=O (λW=>by rw[i];exact sA (100+d) Y Y W);clear h i;have k:=O a;have l:=O j;have m:=O c;obtain⟨p,h⟩:∃y:Int,y=((aG 4 (1000+d):Nat):Int):=⟨_,rfl⟩;obtain⟨q,i⟩:∃y:Int,y=((aG 4 (100+d):Nat):Int):=⟨_,rfl⟩;have n:(cV d).cells=[I N 1,I N d,I N p,I N q,I N 0]:=by rw[h,i];rfl
 rw[<-h]at f;rw[<-i]at g;rw[n];clear a j c h i n
 go_enter func13,ntmps13
 go_wp2_with fail
 refine(f _).mono ?_;rintro e n ⟨rfl,a⟩;have c:=Z k a;have h:=ac l a;clear a k l f
 go_wp2_with fail
 refine(g _).mono ?_;rintro e f ⟨rfl,a⟩;have i:=Z c a;have j:=ac h a;clear a c h g;rw[<-m];have a:=O (jp f b _ #[I N 1,I N d,I N p,I N q,I N 0] _ _ i.out);have c:=O (jq j (jD m.symm) #[I N 1,I N d,I N p,I N q,I N 0])
 go_wp2_with (refine jg rfl λ_ g=>jl 59 _ _ rfl b #[I N 1,I N d,I N p,I N q,I N 0] rfl rfl 59 _ i.out DR rfl (by simp[jX]) (g _ _ ?_))
 generalize f.setRow b #[I N 1,I N d,I N p,I N q,I N 0]=g at a c⊢;exact bodyPost_ret (v:=hZ #[I N 1,I N d,I N p,I N q,I N 0]) (results_cell_row rfl _ _ b 59 _ (0,0) _ rfl a underlying59 rfl DR) rfl ⟨rfl,c⟩
theorem JP{W:hQ}{g:Grp}{v:ih}{f c:Mem}(i:g.mem=[f,c])(h:EM.At W v g.mem):
 ∃a b d,v=hH (T ⟨a,b,hF⟩) 2 d/\W.cell? ⟨a,b+3,hF⟩=T (I N c.dev):=by
 rw[i]at h;obtain⟨-,p,d,e,-,-,j⟩:=h;obtain⟨a,b,rfl,k⟩:=j (by show 0<2;omega);exact⟨a,b,d,e,k 3 (I N c.dev) rfl⟩
theorem IF{W:hQ}{c:Cmt}(g:c=c47){vm vt:ih}(h:cS W (dx bZ c) vm vt):
 ∃e f i,vm=hH (T ⟨e,f,hF⟩) 2 i/\W.cell? ⟨e,f+3,hF⟩=T (I N 7):=by
 have d:(dx bZ c).mem=[⟨4,1,((aG 4 104:Nat):Int)⟩,⟨7,1,((aG 4 107:Nat):Int)⟩]:=by rw[g];exact Jn
 generalize((aG 4 104:Nat):Int)=a at d;generalize((aG 4 107:Nat):Int)=b at d;exact JP d h.mem
theorem oU{l:List ih}{i:Nat}{v:ih}(h:l[i]?=T v):l.toArray[i]?=T v:=by rw[List.getElem?_toArray];exact h
theorem G1{D:Nat->Prop}{W:hQ}{c:Cmt}{q:CQ}{n:Nat}(b:c.box.length=n)(h:az D W c q):∃p k,(aj c q).toArray[37]?=T (hH p n k):=by
 obtain⟨-,-,-,-,-,a,-,-,-⟩:=eK c q h.plen h.clen;obtain⟨d,⟨-,p,k,e,-⟩,-⟩:=h.box;rw[e,b]at a;exact⟨p,k,oU a⟩
theorem On{D:Nat->Prop}{W:hQ}{c:Cmt}{q:CQ}{n:Nat}(b:c.wel.length=n)(h:az D W c q):∃p k,(aj c q).toArray[38]?=T (hH p n k):=by
 obtain⟨-,-,-,-,-,-,a,-,-⟩:=eK c q h.plen h.clen;obtain⟨d,⟨-,p,k,e,-⟩,-⟩:=h.wel;rw[e,b]at a;exact⟨p,k,oU a⟩
theorem MD{g:Grp}{vm vt:ih}{f e:Int}(a:g.last.length=32)(b:g.folder=f)(he:g.epoch=e):
 (aB g vm vt).toArray[0]?=T (I N f)/\(aB g vm vt).toArray[1]?=T (I N e)/\(aB g vm vt).toArray[34]?=T vm:=by
 have h:=lx (g:=g) (vm:=vm) (vt:=vt) a;rw[b,he]at h;exact⟨oU h.1,oU h.2.1,oU h.2.2.1⟩
theorem uQ(g:Grp)(c:Cmt):(dx g c).folder=g.folder/\(dx g c).epoch=c.epoch/\(dx g c).last=idC c:=by
 unfold dx;exact⟨by dsimp only,by dsimp only,by dsimp only⟩
theorem LW{c:Cmt}:(dx bZ c).folder=3:=(uQ bZ c).1
theorem Ly:c47.epoch=1:=m7.ep.trans (show bZ.epoch+1=1 from rfl)
theorem Kj{c:Cmt}(a:c=c47):(dx bZ c).epoch=1:=(uQ bZ c).2.1.trans (by rw[a];exact Ly)
theorem Nt{W:hQ}{g:Grp}{X:Nat}{a:Array ih}{vm vt:ih}{l:LBy}(b:g.last.length=32)(e:g.last=l)(c:a=(aB g vm vt).toArray)(h:W.heap[X]?=T (hK a 54 (0,0))):W.rangeAt X 2 (l.map v8):=by
 rw[<-e];rw[c]at h;exact de.last (g:=g) (vm:=vm) (vt:=vt) ⟨h,b⟩
theorem GA{c:Cmt}:(dx bZ c).last=idC c:=(uQ bZ c).2.2
theorem KM(c:Cmt):(ja.info? 23).map (·.size)=T ((idC c).map v8).length:=by rw[jr,pg];kernel_rfl
theorem AV(l:LBy)(a:l.length=32)(z:hQ):(Op.equalIn 10000 23 (hZ (l.map v8).toArray) (hZ (l.map v8).toArray)).run ja z=.ok true z:=by
 have h:=tH l l a a z;rw[show decide (l=l)=true from decide_eq_true rfl]at h;exact h
theorem KX(a b:LBy)(f:a.length=32)(g:b.length=32)(z:hQ):
 (Op.equalIn 10000 55 (hZ (a.map v8).toArray) (hZ (b.map v8).toArray)).run ja z=.ok (decide (a=b)) z:=by
 have h:=wY (P:=ja) (t:=55) (e:=5) (n:=32) (k:=.u8) qi underlying5 ae ae ae (a.map λb=>(b.toNat:Int)) (b.map λb=>(b.toNat:Int)) (by rw[jr];exact f) (by rw[jr];exact g)
  (by
   intro c d;obtain⟨y,-,rfl⟩:=List.mem_map.1 d;have:=y.isLt;exact WalkArith.wf_u8 Y) (by
    intro c d;obtain⟨y,-,rfl⟩:=List.mem_map.1 d;have:=y.isLt;exact WalkArith.wf_u8 Y) z
 have e:∀l:LBy,(l.map λb=>(b.toNat:Int)).map (ic .u8)=l.map v8:=λl=>by rw[List.map_map];rfl
 rw[e,e]at h;rw[h]
 congr 1
 have c:(a.map λb=>(b.toNat:Int))=(b.map λb=>(b.toNat:Int))↔a=b:=by
  refine List.map_inj_right λx y d=>?_
  have:x.toNat=y.toNat:=Int.ofNat.inj d;exact BitVec.eq_of_toNat_eq this
 simp only[c]
theorem H5(l:LBy)(a:l.length=32)(z:hQ):(Op.equalIn 10000 55 (hZ (l.map v8).toArray) (hZ (l.map v8).toArray)).run ja z=.ok true z:=by
 have h:=KX l l a a z;rw[show decide (l=l)=true from decide_eq_true rfl]at h;exact h
theorem GI(k:LBy)(i:LBy):fD bZ k i=rp dh (bQ k 9):=rfl
section
section
variable {P:jH} {ops:Array jy} {Q:jA->Act->hQ->Prop} {md:Region.Mode} {S:hQ->Prop}
def oX(P:jH)(ops:Array jy)(S:hQ->Prop):List Nat->(Act->hQ->Prop)->Act->hQ->Prop
 |[],K,a,w=>K a w
 |i::r,K,a,w=>∃o v,ops[i]?=T o/\eP P ops S o v a/\oX P ops S r K (a.put o.dst v) w
def sD(md:Region.Mode)(ops:Array jy):List Nat->Array Bool->Bool
 |[],_=>true
 |i::r,a=>Region.free md ops a i&&(Region.ready md ops a).contains i&&sD md ops r (a.setIfInBounds i true)
def l8:List Nat->Array Bool->Array Bool
 |[],a=>a
 |i::r,a=>l8 r (a.setIfInBounds i true)
theorem D4(g:Region.noSelect ops=true)(k:∀c a b w,Q (.panic c) a w->Q (.panic c) b w){K:Act->hQ->Prop}{n:Nat}{f:Array Bool}(m:∀a w,K a w->fO P md ops Q S ops.size n f a w):
 ∀(l:List Nat) (b:Array Bool) (a:Act) (w:hQ),sD md ops l b=true->l8 l b=f->S w->oX P ops S l K a w->fO P md ops Q S ops.size (n+l.length) b a w
 |[],b,a,w,_,e,_,h=>by
  have d:b=f:=e;rw[d];exact m a w h
 |i::r,b,a,w,hk,e,p,⟨o,v,q,s,h⟩=>by
  simp only[sD,jT]at hk;refine sW q (Region.noSelect_spec g) (λc a d v w=>k c _ a w) (n+r.length) b a w (Region.free_spec q hk.1.1) (λj c d t _=>(AJ j c d t).elim) (by simpa using hk.1.2) s p (D4 g k m r _ _ _ hk.2 e p h)
def ij(md:Region.Mode)(ops:Array jy)(e f:Nat)(g:Array Bool):Nat->List (Nat×Bool)->Bool->Bool->Array Bool->Bool
 |0,b,c,d,a=>b.isEmpty&&c&&d&&(a==g)
 |n+1,b,c,d,a=>match b.head? with
  |some (k,true)=>Region.free md ops a k&&(Region.ready md ops a).contains k&&ij md ops e f g n b.tail c d (a.setIfInBounds k true)
  |_=> !(Region.ready md ops a).isEmpty&&(Region.ready md ops a).all λi=>
   (b.head?==T (i,false)&&ij md ops e f g n b.tail c d (a.setIfInBounds i true))||(i==e&& !c&&ij md ops e f g n b true d (a.setIfInBounds i true))||(i==f&& !d&&ij md ops e f g n b c true (a.setIfInBounds i true))
theorem pU{r s:Nat}{t:Array Bool}{l:List (Nat×Bool)}{fe:Nat}(u:Region.noSelect ops=true)(x:∀c a q w,Q (.panic c) a w->Q (.panic c) q w)(g:Nat->Bool->Bool->Act->hQ->Prop)(p:∀j b f a w,g j b f a w->S w)
 (y:∀j i,l[j]?=T (i,true)->∀b f a w,g j b f a w->∃o v,ops[i]?=T o/\eP P ops S o v a/\g (j+1) b f (a.put o.dst v) w) (z:∀j i,l[j]?=T (i,false)->∀b f a w,g j b f a w->wpOp P ops Q i (g (j+1) b f) a w) (B:∀j f a w,g j false f a w->wpOp P ops Q r (g j true f) a w) (C:∀j b a w,g j b false a w->wpOp P ops Q s (g j b true) a w)
 (D:∀a w,g l.length true true a w->fO P md ops Q S ops.size fe t a w):
 ∀(n j:Nat) (b f:Bool) (m:Array Bool) (a:Act) (w:hQ),j<=l.length->ij md ops r s t n (l.drop j) b f m=true->g j b f a w->fO P md ops Q S ops.size (fe+n) m a w
 |0,j,b,f,m,a,w,E,hk,h=>by
  simp only[ij,jT,beq_iff_eq,List.isEmpty_iff,List.drop_eq_nil_iff]at hk;obtain⟨⟨⟨d,rfl⟩,rfl⟩,rfl⟩:=hk;obtain rfl:j=l.length:=Y;exact D a w h
 |n+1,j,b,f,m,a,w,E,hk,h=>by
  rw[ij,List.head?_drop]at hk
  by_cases H:∃k,l[j]?=T (k,true)
  ·obtain⟨k,e⟩:=H
   rw[e]at hk;simp only[jT]at hk;have F:j<l.length:=(qa.1 e).1;obtain⟨o,v,K,M,R⟩:=y j k e b f a w h;rw[qz]at hk;refine sW K (Region.noSelect_spec u) (λc a d v w=>x c _ a w) (fe+n) m a w (Region.free_spec K hk.1.1) (λj c E d _=>(AJ j c E d).elim) (by simpa using hk.1.2) M (p _ _ _ _ _ h) (pU u x g p y z B C D n (j+1) b f _ _ w F hk.2 R)
  have d:(!(Region.ready md ops m).isEmpty&&(Region.ready md ops m).all λi=>
   (l[j]?==T (i,false)&&ij md ops r s t n (l.drop j).tail b f (m.setIfInBounds i true))||(i==r&& !b&&ij md ops r s t n (l.drop j) true f (m.setIfInBounds i true))||(i==s&& !f&&ij md ops r s t n (l.drop j) b true (m.setIfInBounds i true)))=true:=by
   split at hk
   ·rename_i k e
    exact absurd ⟨k,e⟩ H
   exact hk
  simp only[jT,qw]at d;refine λ_=>⟨λv=>(by rw[v]at d;simp at d),λi K=>?_⟩
  have o:=d.2 i K;simp only[qx,jT,beq_iff_eq,Bool.not_eq_true']at o
  rcases o with(⟨e,k⟩|⟨⟨rfl,rfl⟩,k⟩)|⟨⟨rfl,rfl⟩,k⟩
  ·rw[qz]at k
   have F:j<l.length:=(qa.1 e).1;exact wpOp_mono (λq w' c=>⟨.inr (p _ _ _ _ _ c),pU u x g p y z B C D n (j+1) b f _ q w' F k c⟩) (z j i e b f a w h)
  ·exact wpOp_mono (λq w' c=>⟨.inr (p _ _ _ _ _ c),pU u x g p y z B C D n j true f _ q w' E k c⟩) (B j f a w h)
  exact wpOp_mono (λq w' c=>⟨.inr (p _ _ _ _ _ c),pU u x g p y z B C D n j b true _ q w' E k c⟩) (C j b a w h)
theorem Gz{r:Nat}{a:Act}{w:hQ}(S:hQ->Prop)(g:List Nat)(b:List (Nat×Bool))(h k:Nat)(t:Sch)(d:Nat->Bool->Bool->Act->hQ->Prop)(s:P.follows .mixedOrders=true)(l:Region.noSelect ops=true)
 (u:sD .any ops g (jM ops.size false)=true) (x:ij .any ops h k (l8 (b.map Prod.fst++[h,k]) (l8 g (jM ops.size false))) (b.length+2) b false false (l8 g (jM ops.size false))=true)
 (y:fF .any ops t (l8 (b.map Prod.fst++[h,k]) (l8 g (jM ops.size false)))=true) (M:g.length+(b.length+2)+t.len<=ops.size) (m:∀c a p w,Q (.panic c) a w->Q (.panic c) p w)
 (z:S w.drew) (q:∀j c e a w,d j c e a w->S w)
 (B:∀j i,b[j]?=T (i,true)->∀c e a w,d j c e a w->∃o v,ops[i]?=T o/\eP P ops S o v a/\d (j+1) c e (a.put o.dst v) w) (o:∀j i,b[j]?=T (i,false)->∀c e a w,d j c e a w->wpOp P ops Q i (d (j+1) c e) a w) (v:∀j e a w,d j false e a w->wpOp P ops Q h (d j true e) a w) (C:∀j c a w,d j c false a w->wpOp P ops Q k (d j c true) a w)
 (j:∀a w,d b.length true true a w->dK P ops Q S t a w) (D:oX P ops S g (d 0 false false) a w.drew):(Code.region r ops true).wp P Q a w:=by
 refine wp_region_any s (ra (S:=S) (f:=ops.size) _ _ _ _ (Closed.zero _) ?_);have e:ops.size=(ops.size-g.length-(b.length+2))+(b.length+2)+g.length:=Y;have c:=D4 (md:=.any) (S:=S) l m (K:=d 0 false false) (n:=ops.size-g.length-(b.length+2)+(b.length+2)) (λp w' E=>pU (md:=.any) (fe:=ops.size-g.length-(b.length+2)) l m d q B o v C (λF H i=>iC l m t _ _ _ _ Y y (Sch.waits_size t) (.inr (q _ _ _ _ _ i)) (dC.toF t _ _ (j F H i))) (b.length+2) 0 false false _ p w' (Nat.zero_le _) x E) g _ a w.drew u rfl z D;rw[<-e]at c;exact c
theorem sR{i:Nat}{o:jy}{v:ih}{r:List Nat}{K:Act->hQ->Prop}{a:Act}{w:hQ}(b:ops[i]?=T o)(c:Region.wanted o (yielded ops a.tmps)=true)
 (d:∀w,S w->(jt a.eval o).run P w=.ok (.value v) w) (h:oX P ops S r K (a.put o.dst v) w):oX P ops S (i::r) K a w:=
 ⟨o,v,b,.inl ⟨c,λw e=>.inl (d w e)⟩,h⟩
end
end
theorem yy(g:Grp)(a:Int)(l:List Chg):(dc g a l).length<=1000000:=by
 unfold dc
 split
 ·rename_i h
  obtain⟨b,c,d⟩:=lY.1 h;obtain⟨e,f⟩:=sP b c d;have i:=zb (aJ g.tree l) (gu a) 1;rw[wA e f]at i;show(eu (aJ g.tree l) (gu a) 1).length<=_;omega
 simp
theorem Ah(a:Int)(l:List Chg):(di a l).length<=l.length:=by
 unfold di eV;rw[(List.mergeSort_perm _ _).length_eq];exact qb _ _
theorem fR{a:Act}{o:jy}{x:km}{c:Array ih}{b:Nat}{f:hQ}{e t:ju}{d:TypeDesc}(g:ja.underlying e=T d)(i:d.isRow=true)(j:(ja.info? e).map (·.size)=T c.size)(k:o.op=.load e x)(m:a.eval x=ji (T ⟨b,0,hF⟩))(n:f.heap[b]?=T (hK c t (0,0))):
 (jt a.eval o).run ja f=.ok (.value (hZ c)) f:=by
 have h:=oY (P:=ja) o a e x k b 0 m c.toList _ (sO (t:=t) (l:=c.toList) (by simpa using n)) g i (by rw[Array.length_toList];exact j)
 simpa using h
theorem Lm{a:Act}{o:jy}{c:Array (Nat×km)}{f e:Int}{b:Array ih}(d:b.size=32)(g:o.op=.build 54 c)(h:(c.map fun(i,x)=>(i,a.eval x))= #[(0,I N f),(1,I N e),(2,hZ b)])(W:hQ):
 (jt a.eval o).run ja W=.ok (.value (hZ (#[I N f,I N e]++b++ #[hH hF 0 0,hH hF 0 0]))) W:=by
 simp only[jt,g,h,Sem.run_bind,GT f e b d,Result.andThen_ok,Sem.run_pure]
theorem J6{a:Act}{o:jy}(b:o.op=.build 54 #[])(W:hQ):
 (jt a.eval o).run ja W=.ok (.value (hZ (aB ⟨0,0,kl 32 0#8,[],[]⟩ (hH hF 0 0) (hH hF 0 0)).toArray)) W:=by
 simp only[jt,b,List.map_toArray,ki,Sem.run_bind,LG,Result.andThen_ok,Sem.run_pure]
theorem MB(f e:Int)(d:LBy)(g:d.length=32):∃X c:Array ih,c=(d.map v8).toArray/\c.size=32/\X= #[I N f,I N e]++c++ #[hH hF 0 0,hH hF 0 0]/\
 X=(aB ⟨f,e,d,[],[]⟩ (hH hF 0 0) (hH hF 0 0)).toArray/\(ja.info? 54).map (·.size)=T X.size/\X.all (·.oneCell')=true/\X.size=36:=by
 have h:(aB ⟨f,e,d,[],[]⟩ (hH hF 0 0) (hH hF 0 0)).toArray.size=36:=by rw[jC,wV g]
 have a: #[I N f,I N e]++(d.map v8).toArray++ #[hH hF 0 0,hH hF 0 0]=(aB ⟨f,e,d,[],[]⟩ (hH hF 0 0) (hH hF 0 0)).toArray:=by unfold aB;simp
 refine⟨_,_,rfl,by rw[jC,jr];exact g,rfl,a,?_,?_,?_⟩
 ·rw[a,h];kernel_rfl
 ·rw[a,qc]
  intro i b;simp only[aB,qd,jw,kw,qe,or_false]at b
  rcases b with rfl|rfl|b|rfl|rfl
  ·rfl
  ·rfl
  ·exact gs _ i b
  ·rfl
  rfl
 rw[a];exact h
theorem Fu(g:Grp)(c:Cmt):∀a,a=idC c->∀b v:ih,aB ⟨g.folder,c.epoch,a,[],[]⟩ b v=aB (dx g c) b v:=by
 intro a h b v;rw[h];clear h;unfold dx;generalize idC c=i;dsimp only[aB]
theorem Hs(g:Grp)(c:Cmt):(dx g c).last.length=32:=by
 have h:=pg c;unfold dx
 revert h
 generalize idC c=i;exact λh=>h
theorem Nj(g:Grp)(c:Cmt)(W:hQ)(a v:ih)(b:EM.At W a (gD (gM g.mem c.chg c.epoch)))(d:aT W v (kE (aJ g.tree c.chg) c.author c.path)):cS W (dx g c) a v:=by
 have h:=Hs g c
 revert h
 unfold dx;generalize idC c=i;exact λh=>⟨b,d,h⟩
def Hh(g:Grp)(c:Cmt)(w:hQ)(e:jU)(w':hQ):Prop:=
 (ey g c=0->∃vm vt,e=jf (jj #[hZ (aB (dx g c) vm vt).toArray,I N 0])/\cS w' (dx g c) vm vt)/\
 (ey g c≠0->e=jf (jj #[hZ (aB eH (hH hF 0 0) (hH hF 0 0)).toArray,I N (ey g c)]))/\jb w w w'
def zj(g:Grp)(c:Cmt)(w:hQ)(e:jU)(w':hQ):Prop:=
 (ey g c=0->∃vm vt,e=jf (jj #[hZ (aB (dx g c) vm vt).toArray,I N 0])/\cS w' (dx g c) vm vt/\Fr w.heap.size vm/\Fr w.heap.size vt)/\
 (ey g c≠0->e=jf (jj #[hZ (aB eH (hH hF 0 0) (hH hF 0 0)).toArray,I N (ey g c)]))/\jb w w w'
theorem G2(g:Grp)(vm vt:ih)(c:Cmt)(q:CQ)(w:hQ)(h:cS w g vm vt)(hC:az (·<w.heap.size) w c q)(i:dy (aA c))(hT:cJ w)(bc:g.mem.length<=900000)(bd:g.tree.length<=600000):
 jh ja 14 #[hZ (aB g vm vt).toArray,hZ (aj c q).toArray] w (zj g c w):=by
 obtain⟨er,ZX⟩:=J (ey g c);obtain⟨NG,b⟩:=J (dx g c);obtain⟨P,d⟩:=J (zj g c w);have HP:A (∀e w',((er=0->∃vm vt,e=jf (jj #[hZ (aB NG vm vt).toArray,I N 0])/\cS w' NG vm vt/\Fr w.heap.size vm/\Fr w.heap.size vt)/\(er≠0->e=jf (jj #[hZ (aB eH (hH hF 0 0) (hH hF 0 0)).toArray,I N er]))/\jb w w w')->P e w'):=O (by
  rw[d,ZX,b];exact λe w' h=>h)
 rw[<-d];clear d;have b9:A (∀F,F=idC c->∀ad v:ih,aB ⟨g.folder,c.epoch,F,[],[]⟩ ad v=aB NG ad v):=O (by rw[b];exact Fu g c);have ca:A (∀(W:hQ) (ad v:ih),EM.At W ad (gD (gM g.mem c.chg c.epoch))->aT W v (kE (aJ g.tree c.chg) c.author c.path)->cS W NG ad v):=O (by rw[b];exact Nj g c);clear b;have Zv:=O ZX;have al:=mC (vm:=vm) (vt:=vt) h.llen;have au:(ja.info? 31).map (·.size)=T (aj c q).toArray.size:=by rw[jC,eA c q hC.plen hC.clen];exact dZ
 have Qb:=lx (vm:=vm) (vt:=vt) h.llen;have bk:=eK c q hC.plen hC.clen;have a1:∀(w:hQ) (b:Nat),w.heap[b]?=T (hK (aB g vm vt).toArray 54 (0,0))->w.rangeAt b 2 (g.last.map v8):=λw b hb=>de.last ⟨hb,h.llen⟩
 have a3:∀(w:hQ) (b:Nat),w.heap[b]?=T (hK (aj c q).toArray 31 (0,0))->w.rangeAt b 2 (c.parent.map v8):=λw b hb j v hj=>by
  have d:=(qa.1 hj).1;rw[jr,hC.plen]at d;have h1:=tZ c q hC.plen d;refine(cell_of hb (by simpa using h1)).trans ?_;rw[<-hj,ow,j0 (by rw[hC.plen];exact d)];simp[mb,hC.plen,d]
 have HV:A (∀W,cS W g vm vt->jh ja 50 #[hZ (aB g vm vt).toArray] W λe w'=>e=jf (.bool (eE g))/\jb W W w'):=O (λW d=>yK g vm vt W d Y Y);have HK:A (∀W,az (·<W.heap.size) W c q->jh ja 7 #[hZ (aj c q).toArray] W λe w'=>e=jf (I N (en c))/\jb W W w'):=O (λW d=>uP c q W d i);have HN:A (∀W,cS W g vm vt->EC.At W q.vc c.chg->jh ja 15 #[hZ (aB g vm vt).toArray,I N c.author,q.vc] W λe w'=>∃ad,e=jf (jj #[ad,I N (ci g c.author c.chg)])/\w'.ownsRow W 73 4 ad (dc g c.author c.chg).length (EB0.flat (dc g c.author c.chg))/\jb W W w'):=O (λW d f=>sS g vm vt _ _ _ W d f Y Y i.lens.1);have ba:A (∀W,cG g->dD c.chg->eS g c.author c.chg->cS W g vm vt->EC.At W q.vc c.chg->jh ja 38 #[hZ (aB g vm vt).toArray,I N c.author,q.vc] W λe w'=>e=jf (I N (dp g c.author c.chg))/\jb W W w'):=O (λW hv hf hp d f=>CK g vm vt _ _ _ W d (rJ hv) Y f (λhn=>by
  have h0:=hp.own;rw[hn]at h0;obtain⟨x,r,h1,-⟩:=hp.first (by have:=hv.ep.1;have h2:=of_decide_eq_false h0.symm;omega);rw[h1];simp))
 have bq:A (∀W,az (·<W.heap.size) W c q->cJ W->jh ja 49 #[hZ (aj c q).toArray] W λe w'=>∃D,e=jf (hH (T ⟨D,0,hF⟩) 32 32)/\BytesAt w' (hH (T ⟨D,0,hF⟩) 32 32) (dk c)/\jb W W w'):=O (λW d hT=>DI c q W d i hT);have br:A (∀W,az (·<W.heap.size) W c q->cJ W->jh ja 11 #[hZ (aj c q).toArray] W λe w'=>e=jf (hZ ((idC c).map v8).toArray)/\jb W W w'):=O (λW d hT=>sd c q W d i hT);have Un:A (∀W,dD c.chg->cS W g vm vt->EC.At W q.vc c.chg->jh ja 41 #[hZ (aB g vm vt).toArray,q.vc] W λe w'=>∃ad,e=jf (hZ #[ad])/\aT w' ad (aJ g.tree c.chg)/\jb W W w'):=O (λW hf d f=>tW g vm vt _ _ W d hf Y f);obtain⟨aa,hA⟩:=J ((aB g vm vt).toArray);obtain⟨C,H⟩:=J ((aj c q).toArray);rw[<-hA]at al HV HN ba Un a1⊢;rw[<-H]at au HK bq br a3⊢;obtain⟨x0,k⟩:=J ((((w.alloc (hK aa 54)).alloc (hK C 31)).alloc (hK #[I N 0,I N 0,ic ii 0,ic ii 0,ic ii 0,ic ii 0,ic ii 0,ic ii 0,ic ii 0,ic ii 0,ic ii 0,ic ii 0,ic ii 0,ic ii 0,ic ii 0,ic ii 0,ic ii 0,ic ii 0,ic ii 0,ic ii 0,ic ii 0,ic ii 0,ic ii 0,ic ii 0,ic ii 0,ic ii 0,ic ii 0,ic ii 0,ic ii 0,ic ii 0,ic ii 0,ic ii 0,ic ii 0,ic ii 0,hH hF 0 0,hH hF 0 0] 54)));obtain⟨s,r⟩:=J w.heap.size;have d:=jo w (hK aa 54);have u:=af w (hK aa 54);have a2:=jo (w.alloc (hK aa 54)) (hK C 31);have M:=af (w.alloc (hK aa 54)) (hK C 31);have Q:=jo ((w.alloc (hK aa 54)).alloc (hK C 31)) (hK #[I N 0,I N 0,ic ii 0,ic ii 0,ic ii 0,ic ii 0,ic ii 0,ic ii 0,ic ii 0,ic ii 0,ic ii 0,ic ii 0,ic ii 0,ic ii 0,ic ii 0,ic ii 0,ic ii 0,ic ii 0,ic ii 0,ic ii 0,ic ii 0,ic ii 0,ic ii 0,ic ii 0,ic ii 0,ic ii 0,ic ii 0,ic ii 0,ic ii 0,ic ii 0,ic ii 0,ic ii 0,ic ii 0,ic ii 0,hH hF 0 0,hH hF 0 0] 54);have V:=af ((w.alloc (hK aa 54)).alloc (hK C 31)) (hK #[I N 0,I N 0,ic ii 0,ic ii 0,ic ii 0,ic ii 0,ic ii 0,ic ii 0,ic ii 0,ic ii 0,ic ii 0,ic ii 0,ic ii 0,ic ii 0,ic ii 0,ic ii 0,ic ii 0,ic ii 0,ic ii 0,ic ii 0,ic ii 0,ic ii 0,ic ii 0,ic ii 0,ic ii 0,ic ii 0,ic ii 0,ic ii 0,ic ii 0,ic ii 0,ic ii 0,ic ii 0,ic ii 0,ic ii 0,hH hF 0 0,hH hF 0 0] 54);replace d:=ak d M;replace d:=ak d V;rw[jN]at a2;replace a2:=ak a2 V;rw[jN,jN]at Q;have z:=((u).trans (M.mono (u).size)).trans (V.mono ((u).trans (M.mono (u).size)).size);rw[<-k]at z;rw[<-k,<-r]at d;rw[<-k,<-r]at a2;rw[<-k,<-r]at Q;have U:=O d;have Pm:=O a2;have S:=O Q;have o:=O z;have HW:=O k;have HG:=O r;have bf:=O h;have Ws:=O hC;have Yx:=h.below z;have bl:=hC.below z;obtain⟨B,m⟩:∃y:Array ih,y= #[I N 0,I N 0,ic ii 0,ic ii 0,ic ii 0,ic ii 0,ic ii 0,ic ii 0,ic ii 0,ic ii 0,ic ii 0,ic ii 0,ic ii 0,ic ii 0,ic ii 0,ic ii 0,ic ii 0,ic ii 0,ic ii 0,ic ii 0,ic ii 0,ic ii 0,ic ii 0,ic ii 0,ic ii 0,ic ii 0,ic ii 0,ic ii 0,ic ii 0,ic ii 0,ic ii 0,ic ii 0,ic ii 0,ic ii 0,hH hF 0 0,hH hF 0 0]:=⟨_,rfl⟩;have bm:(aB eH (hH hF 0 0) (hH hF 0 0)).toArray=B:=by rw[m];rfl
 have bn:(ja.info? 54).map (·.size)=T B.size:=by rw[m];kernel_rfl
 have bo:B.all (·.oneCell')=true:=by rw[m];kernel_rfl
 replace S:A (x0.heap[s+1+1]?=T (hK B 54 (0,0))):=O (by rw[m];exact S);have SG:=O al;have RP:=O au;have K:=O bn;have Wu:=O bo;have bs:A (B.size=36):=O (by rw[m];rfl);have U7:=O bm;have SP:=O Yx;have X:=O bl;have cb:=O a1;have cc:=O a3;have bg:=O hT;have Wd:=O i;have QC:=O h.llen;have QT:=O hC.plen;have cd:=O hC.clen;have WP:=O bc;have SI:=O bd;have YJ:A (aa[0]?=T (I N g.folder)/\aa[1]?=T (I N g.epoch)/\aa[34]?=T vm/\aa[35]?=T vt):=O (by rw[hA];simpa using Qb);have t:A (C[0]?=T (I N c.folder)/\C[1]?=T (I N c.epoch)/\C[34]?=T (I N c.author)/\C[35]?=T q.vc/\C[36]?=T q.vp/\C[37]?=T q.vb/\C[38]?=T q.vw/\C[71]?=T (I N c.r)/\C[72]?=T (I N c.s)):=O (by rw[H];simpa using bk);have Sc:=O hA;have ce:=O H;have Q3:=O (yu c);have WA:=O (tX g c.author c.chg);obtain⟨vb,S2⟩:=J (eE g);obtain⟨c5,f⟩:=J (en c);rw[<-S2]at HV WA;rw[<-f]at HK Q3;have Wq:=O S2;have bu:=O f;obtain⟨pc,nc,c6,T7⟩:∃p n c',q.vc=hH p n c':=by obtain⟨p,c',h⟩:=hC.chg.form;exact⟨p,_,c',h⟩
 obtain⟨pp,np,cp,a5⟩:∃p n c',q.vp=hH p n c':=by obtain⟨p,c',h⟩:=hC.path.form;exact⟨p,_,c',h⟩
 obtain⟨pb,nb,c7,bb⟩:∃p n c',q.vb=hH p n c':=by obtain⟨us,h,-⟩:=hC.box;obtain⟨p,c',h⟩:=h.form;exact⟨p,_,c',h⟩
 obtain⟨pw,nw,c8,ZY⟩:∃p n c',q.vw=hH p n c':=by obtain⟨us,h,-⟩:=hC.wel;obtain⟨p,c',h⟩:=h.form;exact⟨p,_,c',h⟩
 obtain⟨pm,nm,cm,cj⟩:∃p n c',vm=hH p n c':=by obtain⟨p,c',h,-⟩:=h.mem.form;exact⟨p,_,c',h⟩
 obtain⟨pt,nt,c9,ck⟩:=iO h.tree;rw[T7]at t HN ba Un;rw[a5,bb,ZY]at t;have a4:=O T7;have cq:=O a5;have bh:=O bb;have bv:=O ZY;subst cj;subst ck;clear Yx bl m bm bn bo al au a1 a3 hT i bc bd hA H Qb bk h hC S2 f T7 a5 bb ZY ZX;clear z k r d u a2 M Q V
 go_enter func14,ntmps14
 go_upto_region 1 with fail
 rw[<-HW,<-HG];refine jn ?_;refine j4 rfl 54 _ rfl s rfl 54 aa (0,0) _ U.out jm rfl SG ?_
 go_wp2_with fail
 refine(HV x0 SP).mono ?_;rintro e x1 ⟨rfl,d⟩;have PD:=Z U d;have Q:=Z Pm d;have V:=Z S d;have R2:=O (SP.below d);have Ro:=O (az.below X d);have OZ:=ac o d;clear U Pm S SP X o;clear d
 cases vb with
 |false=>
  have m:A (er=1):=O (by rw[Zv];unfold ey;rw[if_pos Wq.symm])
  go_upto_region 2 with fail
  refine jn ?_;refine cN (v:=hZ B) ag (fR jm rfl K rfl rfl V) ?_;refine L ?_;refine jg rfl λ_ r=>jl 54 _ _ rfl (s+1+1) B rfl rfl 54 _ V.out K rfl Wu (r _ _ ?_)
  clear r;refine L ?_;refine aO ?_;rename_i KR Tv XR;refine Tv _ _ ?_;refine wp_ret ?_;show jJ _ _ P .ret _ _;exact jK (fU rfl _ _ (s+1+1) 54 B (0,0) _ rfl (jp _ _ _ _ _ _ V.out) jm rfl K) rfl (HP _ _ ⟨λh=>absurd (m.symm.trans h) G,λ_=>by rw[U7,m];kernel_rfl,jq OZ.out (by rw[HG];omega) _⟩)
 |true=>
 go_upto_region 3 with fail
 refine jn ?_;refine j4 rfl 31 _ rfl (s+1) rfl 31 C (0,0) _ Q.out jB rfl RP ?_
 go_wp2_with fail
 refine(HK x1 Ro).mono ?_;rintro e x2 ⟨rfl,d⟩;have P7:=Z PD d;have M:=Z Q d;have H:=Z V d;have SN:=O (R2.below d);have Qk:=O (az.below Ro d);have O4:=ac OZ d;clear PD Q V R2 Ro OZ;clear d
 rcases Q3.out with⟨f,rfl⟩|⟨f,rfl⟩
 case inr=>
  have m:A (er=220):=O (by rw[Zv];unfold ey;rw[if_neg (by rw[<-Wq];decide),if_pos (by rw[<-bu];decide)])
  go_upto_region 5 with fail
  refine jn ?_;refine cN (v:=hZ B) ag (fR jm rfl K rfl rfl H) ?_;refine L ?_;refine aO ?_;refine jg rfl λ_ r=>jl 54 _ _ rfl (s+1+1) B rfl rfl 54 _ H.out K rfl Wu (r _ _ ?_)
  clear r;refine L ?_;refine aO ?_;rename_i KR Tv XR;refine Tv _ _ ?_;refine wp_ret ?_;show jJ _ _ P .ret _ _;exact jK (fU rfl _ _ (s+1+1) 54 B (0,0) _ rfl (jp _ _ _ _ _ _ H.out) jm rfl K) rfl (HP _ _ ⟨λh=>absurd (m.symm.trans h) G,λ_=>by rw[U7,m];kernel_rfl,jq O4.out (by rw[HG];omega) _⟩)
 have S4:=O f;clear f;have f:A (ey g c=if onB g c=false then 220 else if ci g c.author c.chg≠0 then ci g c.author c.chg else if gF g c=false then 220
  else if iU (dp g c.author c.chg) c.r c.s (dk c)=false then 222 else ef (aJ g.tree c.chg) c.author c.path):=O (by unfold ey;rw[if_neg (by rw[<-Wq];decide),if_neg (by rw[<-bu];decide)])
 obtain⟨fd,z⟩:=J g.folder;obtain⟨ep,i⟩:=J g.epoch;obtain⟨cf,al⟩:=J c.folder;obtain⟨u,YI⟩:=J c.epoch;rw[<-z,<-i]at YJ;rw[<-al,<-YI]at t;have bk:=O z;have RE:=O i;have bw:=O al;have bb:=O YI;have k:cG g:=by
  by_cases hx:cG g
  ·exact hx
  have h2:=Wq.out;rw[gA hx]at h2;cases h2
 have U4:=O k;have db:0<=ep:=by rw[i];exact k.ep.1
 have dd:ep<=1099511627776:=by rw[i];exact k.ep.2
 clear z i al YI k;have c0:=cell_of M t.1;have c1:=cell_of M t.2.1;have a0:=cell_of P7 YJ.1;have bm:=cell_of P7 YJ.2.1;have P2:=O (cb _ _ P7.out);have bc:=O (cc _ _ M.out);obtain⟨TL,i⟩:=J ((g.last.map v8).toArray);obtain⟨TP,k⟩:=J ((c.parent.map v8).toArray);obtain⟨bA,al⟩:=J (decide (c.parent=g.last));have bd:=O i;have bl:=O k;have bB:=O al;have bn:∀z,(Op.equalIn 10000 23 (hZ TP) (hZ TL)).run ja z=.ok bA z:=by
  rw[i,k,al];exact λz=>tH c.parent g.last QT QC z
 clear i k al
 by_cases h1:cf=fd
 case neg=>
  have a5:(cf==fd)=false:=by simpa using h1
  have bC:(cf !=fd)=true:=by simpa using h1
  have m:A (er=220):=O (by rw[Zv,f,if_pos (by unfold onB;rw[<-bw,<-bk,a5];rfl)]);clear h1
  go_upto_region 7 with fail
  refine jn ?_;refine cN (v:=hZ B) ag (fR jm rfl K rfl rfl H) ?_;refine L ?_;refine jg rfl λ_ r=>jl 54 _ _ rfl (s+1+1) B rfl rfl 54 _ H.out K rfl Wu (r _ _ ?_)
  clear r;refine L ?_;refine aO ?_;rename_i KR Tv XR;refine Tv _ _ ?_;refine wp_ret ?_;show jJ _ _ P .ret _ _;exact jK (fU rfl _ _ (s+1+1) 54 B (0,0) _ rfl (jp _ _ _ _ _ _ H.out) jm rfl K) rfl (HP _ _ ⟨λh=>absurd (m.symm.trans h) G,λ_=>by rw[U7,m];kernel_rfl,jq O4.out (by rw[HG];omega) _⟩)
 have a5:(cf==fd)=true:=by simpa using h1
 have bC:(cf !=fd)=false:=by simpa using h1
 clear h1
 by_cases h2:u=ep+1
 case neg=>
  have a3:(u==ep+1)=false:=by simpa using h2
  have bI:(u !=ep+1)=true:=by simpa using h2
  have m:A (er=220):=O (by rw[Zv,f,if_pos (by unfold onB;rw[<-bb,<-RE,a3];simp)]);clear h2
  go_upto_region 7 with fail
  refine jn ?_;refine cN (v:=hZ B) ag (fR jm rfl K rfl rfl H) ?_;refine L ?_;refine jg rfl λ_ r=>jl 54 _ _ rfl (s+1+1) B rfl rfl 54 _ H.out K rfl Wu (r _ _ ?_)
  clear r;refine L ?_;refine aO ?_;rename_i KR Tv XR;refine Tv _ _ ?_;refine wp_ret ?_;show jJ _ _ P .ret _ _;exact jK (fU rfl _ _ (s+1+1) 54 B (0,0) _ rfl (jp _ _ _ _ _ _ H.out) jm rfl K) rfl (HP _ _ ⟨λh=>absurd (m.symm.trans h) G,λ_=>by rw[U7,m];kernel_rfl,jq O4.out (by rw[HG];omega) _⟩)
 have a3:(u==ep+1)=true:=by simpa using h2
 have bI:(u !=ep+1)=false:=by simpa using h2
 have dn:=O h2;clear h2;have a1:(ja.info? 23).map (·.size)=T (c.parent.map v8).length:=by rw[jr,QT];kernel_rfl
 have i:(ja.info? 23).map (·.size)=T (g.last.map v8).length:=by rw[jr,QC];kernel_rfl
 have Yo:=O a1;have TB:=O i;clear a1 i;have i:IntKind.i64.wrap (ep+1)=ep+1:=IntWalk.i64_in _ Y
 go_upto_region 6 with fail
 refine jn ?_;iterate 15 refine aO ?_
 refine rZ ag λ_ r=>wp_load_mid 23 _ rfl (s+1) 2 rfl (c.parent.map v8) _ bc.out qj rfl Yo (r _ _ ?_)
 rw[<-bl];refine L ?_;refine aO ?_;refine rZ ag λ_ r=>wp_load_mid 23 _ rfl s 2 rfl (g.last.map v8) _ P2.out qj rfl TB (r _ _ ?_)
 rw[<-bd];refine L ?_;clear i
 cases bA with
 |false=>
  have m:A (er=220):=O (by rw[Zv,f,if_pos (by unfold onB;rw[<-bB];simp)])
  go_upto_region 7 with fail
  refine jn ?_;refine cN (v:=hZ B) ag (fR jm rfl K rfl rfl H) ?_;refine L ?_;refine jg rfl λ_ r=>jl 54 _ _ rfl (s+1+1) B rfl rfl 54 _ H.out K rfl Wu (r _ _ ?_)
  clear r;refine L ?_;refine aO ?_;rename_i KR Tv XR;refine Tv _ _ ?_;refine wp_ret ?_;show jJ _ _ P .ret _ _;exact jK (fU rfl _ _ (s+1+1) 54 B (0,0) _ rfl (jp _ _ _ _ _ _ H.out) jm rfl K) rfl (HP _ _ ⟨λh=>absurd (m.symm.trans h) G,λ_=>by rw[U7,m];kernel_rfl,jq O4.out (by rw[HG];omega) _⟩)
 |true=>
 have i:A (ey g c=if ci g c.author c.chg≠0 then ci g c.author c.chg else if gF g c=false then 220
  else if iU (dp g c.author c.chg) c.r c.s (dk c)=false then 222 else ef (aJ g.tree c.chg) c.author c.path):=O (by rw[f,if_neg (by unfold onB;rw[<-bw,<-bk,<-bb,<-RE,a5,a3,<-bB];decide)])
 obtain⟨au,k⟩:=J c.author;rw[<-k]at t HN ba WA;have ZZ:=O k;clear k;have k:=cell_of M t.2.2.1;have Rq:=cell_of M t.2.2.2.1
 go_upto_region 8 with fail
 clear c0 c1 a0 bm P2 bc bn a5 bC a3 bI bd bl Yo TB f;refine jn ?_;refine j4 rfl 54 _ rfl s rfl 54 aa (0,0) _ P7.out jm rfl SG ?_
 go_wp2_with fail
 refine(HN x2 SN.out (by rw[<-a4];exact EK.At.of_sl (E:=EC) Qk.chg)).mono ?_;rintro e x3 ⟨ad,rfl,hu,d⟩;have TD:=O (EK.At.of_own (E:=EB0) hu);clear hu k Rq;have Qw:=Z P7 d;have PM:=Z M d;have f:=Z H d;have Wr:=O (SN.below d);have QI:=O (az.below Qk d);have O8:=ac O4 d;clear P7 M H SN Qk O4;clear d;obtain⟨pu,dr,rfl,-,-⟩:=TD.form;obtain⟨nu,k⟩:=J ((dc g au c.chg).length);rw[<-k]at TD⊢;have Zr:=O k;clear k
 rcases WA.out with⟨hx,-⟩|⟨-,-,hx⟩|⟨-,hf,hp,hx⟩
 case inl=>cases hx
 case inr.inl=>
  have m:A (er=221):=O (by rw[Zv,i,<-ZZ,hx];rfl);rw[hx];clear hx
  go_upto_region 10 with fail
  refine jn ?_;refine cN (v:=hZ B) ag (fR jm rfl K rfl rfl f) ?_;refine L ?_;refine aO ?_;refine jg rfl λ_ r=>jl 54 _ _ rfl (s+1+1) B rfl rfl 54 _ f.out K rfl Wu (r _ _ ?_)
  clear r;refine L ?_;refine aO ?_;rename_i KR Tv XR;refine Tv _ _ ?_;refine wp_ret ?_;show jJ _ _ P .ret _ _;exact jK (fU rfl _ _ (s+1+1) 54 B (0,0) _ rfl (jp _ _ _ _ _ _ f.out) jm rfl K) rfl (HP _ _ ⟨λh=>absurd (m.symm.trans h) G,λ_=>by rw[U7,m];kernel_rfl,jq O8.out (by rw[HG];omega) _⟩)
 rw[hx];have R4:A (ey g c=if gF g c=false then 220 else if iU (dp g c.author c.chg) c.r c.s (dk c)=false then 222 else ef (aJ g.tree c.chg) c.author c.path):=O (by rw[i,<-ZZ,hx];rfl);have TW:=O (mo.1 hf);have bK:=O (pK.1 hp);clear hf hp hx i;have TC:=O Wd.lens;obtain⟨eb,i⟩:=J (decide (c.box.map (λb:Bx=>(b.lev,b.node))=(dc g au c.chg).map (λx:Int×Int=>x)));have Zl:=O i;obtain⟨ew,k⟩:=J (decide (c.wel.map Wl.dev=(di au c.chg).map Chg.d));have bc:=O k;clear i k
 go_upto_region 13 with fail
 cases eb with
 |false=>
  have m:A (er=220):=O (by rw[Zv,R4,if_pos (by unfold gF;rw[<-ZZ];have h:=Zl.out;rw[List.map_id']at h;rw[<-h];rfl)]);refine jI ?_;refine aY (λk=>k.heap[s+1]?=T (hK C 31 (0,0))) (.take 0 (.take 1 (.take 2 (.take 3 (.one 4 (.take 5 (.take 6 (.take 7 (.take 8 (.take 9 (.take 10 (.take 11 (.take 12 (.take 14 (.one 13 (.one 15 (.take 16 (.take 17 .done)))))))))))))))))) ae ae ae G (λ_ _ _ _ h=>h) PM ?_;obtain⟨z0,Pe⟩:=J x3.drew;have d:=aQ x3;rw[<-Pe]at d⊢;have U:=Z Qw d;have Pm:=Z PM d;have S:=Z f d;have SP:=O (Wr.below d);have X:=O (az.below QI d);have o:=ac O8 d;have VA:=O (TD.below d);clear d Pe Qw PM f Wr QI O8 TD;refine aC ?_
  (refine ay (v:=?_) rfl ag (λk i=>?_) ?_;rotate_left;(have b0:=cell_of i t.2.2.1;have b1:=cell_of i t.2.2.2.1;have b2:=cell_of i t.2.2.2.2.2.1;have b3:=cell_of i t.2.2.2.2.2.2.1;go_simp;with_reducible rfl);refine L ?_)
  iterate 2 refine aC ?_
  refine ai rfl (λK' r=>?_);go_simp;refine(vO c.box (dc g au c.chg) _ _ z0 (by rw[<-bh];exact X.box) VA TC.2.2.1 (yy g au c.chg)).mono ?_;rintro e z1 ⟨rfl,d⟩;rw[<-Zl];have PD:=Z U d;have Q:=Z Pm d;have V:=Z S d;have R2:=O (SP.below d);have Ro:=O (az.below X d);have OZ:=ac o d;have SO:=O (VA.below d);clear U Pm S SP X o VA;clear d;refine r _ _ Q.out λ_=>?_
  clear r;refine L ?_;iterate 2 refine aC ?_
  iterate 7 refine gB ?_
  refine ai rfl (λK' r=>?_);rw[if_neg (qA.1 ag)];refine r _ _ Q.out λ_=>?_
  clear r;refine L ?_;refine ai rfl (λK' r=>?_);rw[if_neg (qA.1 ag)];refine r _ _ Q.out λ_=>?_
  clear r;refine L ?_;refine gB ?_;refine aC ?_;refine jG ?_
  go_upto_region 14 with fail
  refine jn ?_;refine cN (v:=hZ B) ag (fR jm rfl K rfl rfl V) ?_;refine L ?_;refine jg rfl λ_ r=>jl 54 _ _ rfl (s+1+1) B rfl rfl 54 _ V.out K rfl Wu (r _ _ ?_)
  clear r;refine L ?_;refine aO ?_;rename_i KR Tv XR;refine Tv _ _ ?_;refine wp_ret ?_;show jJ _ _ P .ret _ _;exact jK (fU rfl _ _ (s+1+1) 54 B (0,0) _ rfl (jp _ _ _ _ _ _ V.out) jm rfl K) rfl (HP _ _ ⟨λh=>absurd (m.symm.trans h) G,λ_=>by rw[U7,m];kernel_rfl,jq OZ.out (by rw[HG];omega) _⟩)
 |true=>
 cases ew with
 |false=>
  have m:A (er=220):=O (by rw[Zv,R4,if_pos (by unfold gF;rw[<-ZZ,<-bc];simp)]);refine jI ?_;refine aY (λk=>k.heap[s+1]?=T (hK C 31 (0,0))) (.take 0 (.take 1 (.take 2 (.take 3 (.one 4 (.take 5 (.take 6 (.take 7 (.take 8 (.take 9 (.take 10 (.take 11 (.take 12 (.take 14 (.one 13 (.one 15 (.take 16 (.take 17 .done)))))))))))))))))) ae ae ae G (λ_ _ _ _ h=>h) PM ?_;obtain⟨z0,Pe⟩:=J x3.drew;have d:=aQ x3;rw[<-Pe]at d⊢;have U:=Z Qw d;have Pm:=Z PM d;have S:=Z f d;have SP:=O (Wr.below d);have X:=O (az.below QI d);have o:=ac O8 d;have VA:=O (TD.below d);clear d Pe Qw PM f Wr QI O8 TD;refine aC ?_
  (refine ay (v:=?_) rfl ag (λk i=>?_) ?_;rotate_left;(have b0:=cell_of i t.2.2.1;have b1:=cell_of i t.2.2.2.1;have b2:=cell_of i t.2.2.2.2.2.1;have b3:=cell_of i t.2.2.2.2.2.2.1;go_simp;with_reducible rfl);refine L ?_)
  iterate 2 refine aC ?_
  refine ai rfl (λK' r=>?_);go_simp;refine(vO c.box (dc g au c.chg) _ _ z0 (by rw[<-bh];exact X.box) VA TC.2.2.1 (yy g au c.chg)).mono ?_;rintro e z1 ⟨rfl,d⟩;rw[<-Zl];have PD:=Z U d;have Q:=Z Pm d;have V:=Z S d;have R2:=O (SP.below d);have Ro:=O (az.below X d);have OZ:=ac o d;have SO:=O (VA.below d);clear U Pm S SP X o VA;clear d;refine r _ _ Q.out λ_=>?_
  clear r;refine L ?_;iterate 3 refine aC ?_
  (refine ay (v:=?_) rfl ag (λk i=>?_) ?_;rotate_left;(have b0:=cell_of i t.2.2.1;have b1:=cell_of i t.2.2.2.1;have b2:=cell_of i t.2.2.2.2.2.1;have b3:=cell_of i t.2.2.2.2.2.2.1;go_simp;with_reducible rfl);refine L ?_)
  refine aC ?_
  (refine ay (v:=?_) rfl ag (λk i=>?_) ?_;rotate_left;(have b0:=cell_of i t.2.2.1;have b1:=cell_of i t.2.2.2.1;have b2:=cell_of i t.2.2.2.2.2.1;have b3:=cell_of i t.2.2.2.2.2.2.1;go_simp;with_reducible rfl);refine L ?_)
  refine aC ?_
  (refine ay (v:=?_) rfl ag (λk i=>?_) ?_;rotate_left;(have b0:=cell_of i t.2.2.1;have b1:=cell_of i t.2.2.2.1;have b2:=cell_of i t.2.2.2.2.2.1;have b3:=cell_of i t.2.2.2.2.2.2.1;go_simp;with_reducible rfl);refine L ?_)
  refine aC ?_;refine ai rfl (λK' r=>?_);rw[if_pos ag];go_simp;refine(uY au c.chg _ z1 (by rw[<-a4];exact EK.At.of_sl (E:=EC) Ro.chg) TW.once TC.1).mono ?_;rintro e z2 ⟨ad,rfl,hu,d⟩;have al:=O hu;clear hu;obtain⟨py,cy,rfl,-,-⟩:=al.form;have P7:=Z PD d;have M:=Z Q d;have H:=Z V d;have SN:=O (R2.below d);have Qk:=O (az.below Ro d);have O4:=ac OZ d;have YE:=O (SO.below d);clear PD Q V R2 Ro OZ SO;clear d;refine r _ _ M.out λ_=>?_
  clear r;refine L ?_;refine ai rfl (λK' r=>?_);rw[if_pos ag];go_simp;refine(BM c.wel (di au c.chg) _ _ z2 (by rw[<-bv];exact Qk.wel) al TC.2.2.2 (by have:=Ah au c.chg;have:=TC.1;omega)).mono ?_;rintro e z3 ⟨rfl,d⟩;rw[<-bc];have Qw:=Z P7 d;have PM:=Z M d;have f:=Z H d;have Wr:=O (SN.below d);have QI:=O (az.below Qk d);have O8:=ac O4 d;have TD:=O (YE.below d);clear P7 M H SN Qk O4 YE al;clear d;refine r _ _ PM.out λ_=>?_
  clear r;refine L ?_;iterate 2 refine aC ?_
  refine jG ?_
  go_upto_region 14 with fail
  refine jn ?_;refine cN (v:=hZ B) ag (fR jm rfl K rfl rfl f) ?_;refine L ?_;refine jg rfl λ_ r=>jl 54 _ _ rfl (s+1+1) B rfl rfl 54 _ f.out K rfl Wu (r _ _ ?_)
  clear r;refine L ?_;refine aO ?_;rename_i KR Tv XR;refine Tv _ _ ?_;refine wp_ret ?_;show jJ _ _ P .ret _ _;exact jK (fU rfl _ _ (s+1+1) 54 B (0,0) _ rfl (jp _ _ _ _ _ _ f.out) jm rfl K) rfl (HP _ _ ⟨λh=>absurd (m.symm.trans h) G,λ_=>by rw[U7,m];kernel_rfl,jq O8.out (by rw[HG];omega) _⟩)
 |true=>
 have VH:A (ey g c=if iU (dp g c.author c.chg) c.r c.s (dk c)=false then 222 else ef (aJ g.tree c.chg) c.author c.path):=O (by rw[R4,if_neg (by unfold gF;rw[<-ZZ,<-bc];have h:=Zl.out;rw[List.map_id']at h;rw[<-h];decide)]);refine jI ?_;refine aY (λk=>k.heap[s+1]?=T (hK C 31 (0,0))) (.take 0 (.take 1 (.take 2 (.take 3 (.one 4 (.take 5 (.take 6 (.take 7 (.take 8 (.take 9 (.take 10 (.take 11 (.take 12 (.take 14 (.one 13 (.one 15 (.take 16 (.take 17 .done)))))))))))))))))) ae ae ae G (λ_ _ _ _ h=>h) PM ?_;obtain⟨z0,Pe⟩:=J x3.drew;have d:=aQ x3;rw[<-Pe]at d⊢;have U:=Z Qw d;have Pm:=Z PM d;have S:=Z f d;have SP:=O (Wr.below d);have X:=O (az.below QI d);have o:=ac O8 d;have VA:=O (TD.below d);clear d Pe Qw PM f Wr QI O8 TD;refine aC ?_
 (refine ay (v:=?_) rfl ag (λk i=>?_) ?_;rotate_left;(have b0:=cell_of i t.2.2.1;have b1:=cell_of i t.2.2.2.1;have b2:=cell_of i t.2.2.2.2.2.1;have b3:=cell_of i t.2.2.2.2.2.2.1;go_simp;with_reducible rfl);refine L ?_)
 iterate 2 refine aC ?_
 refine ai rfl (λK' r=>?_);go_simp;refine(vO c.box (dc g au c.chg) _ _ z0 (by rw[<-bh];exact X.box) VA TC.2.2.1 (yy g au c.chg)).mono ?_;rintro e z1 ⟨rfl,d⟩;rw[<-Zl];have PD:=Z U d;have Q:=Z Pm d;have V:=Z S d;have R2:=O (SP.below d);have Ro:=O (az.below X d);have OZ:=ac o d;have SO:=O (VA.below d);clear U Pm S SP X o VA;clear d;refine r _ _ Q.out λ_=>?_
 clear r;refine L ?_;iterate 3 refine aC ?_
 (refine ay (v:=?_) rfl ag (λk i=>?_) ?_;rotate_left;(have b0:=cell_of i t.2.2.1;have b1:=cell_of i t.2.2.2.1;have b2:=cell_of i t.2.2.2.2.2.1;have b3:=cell_of i t.2.2.2.2.2.2.1;go_simp;with_reducible rfl);refine L ?_)
 refine aC ?_
 (refine ay (v:=?_) rfl ag (λk i=>?_) ?_;rotate_left;(have b0:=cell_of i t.2.2.1;have b1:=cell_of i t.2.2.2.1;have b2:=cell_of i t.2.2.2.2.2.1;have b3:=cell_of i t.2.2.2.2.2.2.1;go_simp;with_reducible rfl);refine L ?_)
 refine aC ?_
 (refine ay (v:=?_) rfl ag (λk i=>?_) ?_;rotate_left;(have b0:=cell_of i t.2.2.1;have b1:=cell_of i t.2.2.2.1;have b2:=cell_of i t.2.2.2.2.2.1;have b3:=cell_of i t.2.2.2.2.2.2.1;go_simp;with_reducible rfl);refine L ?_)
 refine aC ?_;refine ai rfl (λK' r=>?_);rw[if_pos ag];go_simp;refine(uY au c.chg _ z1 (by rw[<-a4];exact EK.At.of_sl (E:=EC) Ro.chg) TW.once TC.1).mono ?_;rintro e z2 ⟨ad,rfl,hu,d⟩;have al:=O hu;clear hu;obtain⟨py,cy,rfl,-,-⟩:=al.form;have P7:=Z PD d;have M:=Z Q d;have H:=Z V d;have SN:=O (R2.below d);have Qk:=O (az.below Ro d);have O4:=ac OZ d;have YE:=O (SO.below d);clear PD Q V R2 Ro OZ SO;clear d;refine r _ _ M.out λ_=>?_
 clear r;refine L ?_;refine ai rfl (λK' r=>?_);rw[if_pos ag];go_simp;refine(BM c.wel (di au c.chg) _ _ z2 (by rw[<-bv];exact Qk.wel) al TC.2.2.2 (by have:=Ah au c.chg;have:=TC.1;omega)).mono ?_;rintro e z3 ⟨rfl,d⟩;rw[<-bc];have Qw:=Z P7 d;have PM:=Z M d;have f:=Z H d;have Wr:=O (SN.below d);have QI:=O (az.below Qk d);have O8:=ac O4 d;have TD:=O (YE.below d);clear P7 M H SN Qk O4 YE al;clear d;refine r _ _ PM.out λ_=>?_
 clear r;refine L ?_;iterate 2 refine aC ?_
 refine jG ?_;clear Wr QI TD
 go_upto_region 15 with fail
 refine jI ?_;refine aY (λk=>k.heap[s]?=T (hK aa 54 (0,0))/\k.heap[s+1]?=T (hK C 31 (0,0))) (.take 0 (.take 1 (.take 2 (.take 3 (.take 4 (.take 6 (.take 8 (.take 9 (.one 5 (.one 7 (.one 10 (.take 11 .done)))))))))))) ae ae ae G (λ_ _ _ _ h=>h) ⟨Qw,PM⟩ ?_;obtain⟨y0,Pe⟩:=J z3.drew;have d:=aQ z3;rw[<-Pe]at d⊢;have Um:=Z Qw d;have RG:=Z PM d;have RH:=Z f d;have QZ:=ac O8 d;clear d Pe Qw PM f O8;have U:=Um;clear Um;have Pm:=RG;clear RG;have S:=RH;clear RH;have o:=QZ;clear QZ
 (refine ay (v:=hZ aa) rfl ag (λk i=>fR jm rfl SG rfl rfl i.1) ?_;refine L ?_)
 refine aC ?_
 (refine ay (v:=?_) rfl ag (λk i=>?_) ?_;rotate_left;(have b0:=cell_of i.2 t.2.2.1;have b1:=cell_of i.2 t.2.2.2.1;have b2:=cell_of i.2 t.2.2.2.2.2.2.2.1;have b3:=cell_of i.2 t.2.2.2.2.2.2.2.2;go_simp;with_reducible rfl);refine L ?_)
 refine aC ?_
 (refine ay (v:=?_) rfl ag (λk i=>?_) ?_;rotate_left;(have b0:=cell_of i.2 t.2.2.1;have b1:=cell_of i.2 t.2.2.2.1;have b2:=cell_of i.2 t.2.2.2.2.2.2.2.1;have b3:=cell_of i.2 t.2.2.2.2.2.2.2.2;go_simp;with_reducible rfl);refine L ?_)
 (refine ay (v:=hZ C) rfl ag (λk i=>fR jB rfl RP rfl rfl i.2) ?_;refine L ?_)
 refine aC ?_
 (refine ay (v:=?_) rfl ag (λk i=>?_) ?_;rotate_left;(have b0:=cell_of i.2 t.2.2.1;have b1:=cell_of i.2 t.2.2.2.1;have b2:=cell_of i.2 t.2.2.2.2.2.2.2.1;have b3:=cell_of i.2 t.2.2.2.2.2.2.2.2;go_simp;with_reducible rfl);refine L ?_)
 refine ai rfl (λK' r=>?_);go_simp;refine(ba y0 U4 TW bK (bf.below o) (by rw[<-a4];exact(EK.At.of_sl (E:=EC) Ws.chg).below o)).mono ?_;rintro e y1 ⟨rfl,d⟩;have PD:=Z U d;have Q:=Z Pm d;have V:=Z S d;have OZ:=ac o d;clear U Pm S o;clear d;refine r _ _ ⟨PD,Q⟩ λ_=>?_
 clear r;refine L ?_;refine ai rfl (λK' r=>?_);go_simp;refine(bq y1 (Ws.below OZ) (bg.below OZ)).mono ?_;rintro e y2 ⟨D,rfl,X,d⟩;have al:=O X;clear X;have P7:=Z PD d;have M:=Z Q d;have H:=Z V d;have O4:=ac OZ d;clear PD Q V OZ;clear d;refine r _ _ ⟨P7,M⟩ λ_=>?_
 clear r;refine L ?_;refine ai rfl (λK' r=>?_);go_simp;refine(Jz (dp g au c.chg) c.r c.s (dk c) _ (by rw[Iu];decide) y2 al (bg.below O4)).mono ?_;rintro e y3 ⟨vr,rfl,X,d⟩;have bd:=O X;clear X;have Qw:=Z P7 d;have PM:=Z M d;have f:=Z H d;have O8:=ac O4 d;clear P7 M H O4 al;clear d;refine r _ _ ⟨Qw,PM⟩ λ_=>?_
 clear r;refine L ?_;refine aC ?_;refine jG ?_;have X:vr=iU (dp g au c.chg) c.r c.s (dk c):=by rw[Bool.eq_iff_iff,wu];exact bd
 have Q7:=O X;clear X bd
 cases vr with
 |false=>
  have m:A (er=222):=O (by rw[Zv,VH,if_pos (by rw[<-ZZ];exact Q7.symm)])
  go_upto_region 16 with fail
  refine jn ?_;refine cN (v:=hZ B) ag (fR jm rfl K rfl rfl f) ?_;refine L ?_;refine jg rfl λ_ r=>jl 54 _ _ rfl (s+1+1) B rfl rfl 54 _ f.out K rfl Wu (r _ _ ?_)
  clear r;refine L ?_;refine aO ?_;rename_i KR Tv XR;refine Tv _ _ ?_;refine wp_ret ?_;show jJ _ _ P .ret _ _;exact jK (fU rfl _ _ (s+1+1) 54 B (0,0) _ rfl (jp _ _ _ _ _ _ f.out) jm rfl K) rfl (HP _ _ ⟨λh=>absurd (m.symm.trans h) G,λ_=>by rw[U7,m];kernel_rfl,jq O8.out (by rw[HG];omega) _⟩)
 |true=>
 have Zx:A (er=ef (aJ g.tree c.chg) au c.path):=O (by rw[Zv,VH,if_neg (by rw[<-ZZ,<-Q7];decide),<-ZZ]);obtain⟨F,a1⟩:=J (idC c);have bd:F.length=32:=by rw[a1];exact pg c
 have Yo:=O a1;have al:=O bd;obtain⟨X,cr,hT,bn,hX,bo,bM,bN,bl⟩:=MB fd u F bd;have bO:B.size=X.size:=by rw[bl];exact bs
 have cs:=O bn;have ct:A (∀W,az (·<W.heap.size) W c q->cJ W->jh ja 11 #[hZ C] W λe w'=>e=jf (hZ cr)/\jb W W w'):=O (by rw[hT,a1];exact br);have YB:=O bo;have WO:=O bM;have cu:=O bN;have cv:=O hX;have cw:=O bO;have bm:=O bl;clear hT hX bo bM bN bn bO bl a1 bd
 go_upto_region 17 with fail
 refine jI ?_;refine aY (λk=>k.heap[s]?=T (hK aa 54 (0,0))/\k.heap[s+1]?=T (hK C 31 (0,0))) (.take 0 (.take 1 (.take 2 (.take 3 (.take 4 (.one 5 (.take 6 (.one 7 .done)))))))) ae ae ae G (λ_ _ _ _ h=>h) ⟨Qw,PM⟩ ?_;obtain⟨u0,Pe⟩:=J y3.drew;have d:=aQ y3;rw[<-Pe]at d⊢;have Um:=Z Qw d;have RG:=Z PM d;have RH:=Z f d;have QZ:=ac O8 d;clear d Pe Qw PM f O8;have U:=Um;clear Um;have Pm:=RG;clear RG;have S:=RH;clear RH;have o:=QZ;clear QZ;refine aC ?_
 (refine ay (v:=?_) rfl ag (λk i=>?_) ?_;rotate_left;(have b0:=cell_of i.1 YJ.1;have b1:=cell_of i.2 t.2.1;go_simp;with_reducible rfl);refine L ?_)
 refine aC ?_
 (refine ay (v:=?_) rfl ag (λk i=>?_) ?_;rotate_left;(have b0:=cell_of i.1 YJ.1;have b1:=cell_of i.2 t.2.1;go_simp;with_reducible rfl);refine L ?_)
 (refine ay (v:=hZ C) rfl ag (λk i=>fR jB rfl RP rfl rfl i.2) ?_;refine L ?_)
 refine ai rfl (λK' r=>?_);go_simp;refine(ct u0 (Ws.below o) (bg.below o)).mono ?_;rintro e u1 ⟨rfl,d⟩;have PD:=Z U d;have Q:=Z Pm d;have V:=Z S d;have OZ:=ac o d;clear U Pm S o;clear d;refine r _ _ ⟨PD,Q⟩ λ_=>?_
 clear r;refine L ?_
 (refine ay (v:=hZ X) rfl ag (λk i=>by rw[cv];exact Lm (f:=fd) (e:=u) cs rfl ae k) ?_;refine L ?_)
 refine ai rfl (λK' r=>?_);rw[if_pos ag];refine jl 54 _ _ rfl (s+1+1) X rfl rfl 54 _ V.out WO cw cu (r _ _ ⟨(jz _ _ _ _ Y).trans PD,(jz _ _ _ _ Y).trans Q⟩ λ_=>?_);clear r;have SX:A ((u1.setRow (s+1+1) X).heap[s]?=T (hK aa 54 (0,0))):=O ((jz _ _ _ _ Y).trans PD);have RR:A ((u1.setRow (s+1+1) X).heap[s+1]?=T (hK C 31 (0,0))):=O ((jz _ _ _ _ Y).trans Q);have SC:A ((u1.setRow (s+1+1) X).heap[s+1+1]?=T (hK X 54 (0,0))):=O (jp _ _ _ _ _ _ V.out);have Qx:=O (jq OZ (show w.heap.size<=s+1+1 by rw[HG];omega) X);generalize u1.setRow (s+1+1) X=u9 at SX RR SC Qx⊢;clear PD Q V OZ;refine L ?_;refine jG ?_;obtain⟨re,a1⟩:=J (ef (aJ g.tree c.chg) au c.path);have bd:(aJ g.tree c.chg).length<=800000:=by have:=tp g.tree c.chg;have:=SI.out;have:=TW.len;omega
 have bl:I64 au:=by
  obtain⟨h1,h2⟩:=sP U4 TW bK;exact I64.of Y
 have bn:∀j,I64 (c.path.getD j 0):=λj=>by
  rcases Nat.lt_or_ge j c.path.length with h1|h1
  ·rw[eh _ h1];exact vR (S4.path _ (List.getElem_mem h1))
  rw[show c.path.getD j 0=0 by simp[mb,h1]];exact I64.of Y
 have Tw:A (∀W v,aT W v (aJ g.tree c.chg)->cC W (hH pp np cp) c.path->jh ja 56 #[hZ #[v],I N au,hH pp np cp] W λe w'=>∃x,e=jf (jj #[hZ #[x],I N re])/\(aT w' x (kE (aJ g.tree c.chg) au c.path)/\Fr W.heap.size x)/\jb W W w'):=O (by
  rw[a1];exact λW v hv hp=>Ku _ v au c.path _ W hv bd bl hp TC.2.1 bn)
 have bM:=O a1;have cx:A (cC w (hH pp np cp) c.path):=O (by rw[<-cq];exact ah.ints Ws.path);clear a1 bd bl bn
 go_upto_region 18 with fail
 refine jI ?_;refine aY (λk=>k.heap[s]?=T (hK aa 54 (0,0))/\k.heap[s+1]?=T (hK C 31 (0,0))) (.take 0 (.take 1 (.take 2 (.take 4 (.take 5 (.take 6 (.take 7 (.one 3 (.one 8 (.take 9 (.take 10 (.take 11 (.take 12 (.one 13 (.take 14 .done))))))))))))))) ae ae ae G (λ_ _ _ _ h=>h) ⟨SX,RR⟩ ?_;obtain⟨v0,Pe⟩:=J u9.drew;have d:=aQ u9;rw[<-Pe]at d⊢;have Um:=Z SX d;have RG:=Z RR d;have RH:=Z SC d;have QZ:=ac Qx d;clear d Pe SX RR SC Qx;have U:=Um;clear Um;have Pm:=RG;clear RG;have S:=RH;clear RH;have o:=QZ;clear QZ
 (refine ay (v:=hZ aa) rfl ag (λk i=>fR jm rfl SG rfl rfl i.1) ?_;refine L ?_)
 refine aC ?_
 (refine ay (v:=?_) rfl ag (λk i=>?_) ?_;rotate_left;(have b0:=cell_of i.2 t.2.2.1;have b1:=cell_of i.2 t.2.2.2.1;have b2:=cell_of i.2 t.2.2.2.2.1;go_simp;with_reducible rfl);refine L ?_)
 refine aC ?_
 (refine ay (v:=?_) rfl ag (λk i=>?_) ?_;rotate_left;(have b0:=cell_of i.2 t.2.2.1;have b1:=cell_of i.2 t.2.2.2.1;have b2:=cell_of i.2 t.2.2.2.2.1;go_simp;with_reducible rfl);refine L ?_)
 refine aC ?_
 (refine ay (v:=?_) rfl ag (λk i=>?_) ?_;rotate_left;(have b0:=cell_of i.2 t.2.2.1;have b1:=cell_of i.2 t.2.2.2.1;have b2:=cell_of i.2 t.2.2.2.2.1;go_simp;with_reducible rfl);refine L ?_)
 refine ai rfl (λK' r=>?_);go_simp;refine(Un v0 TW (bf.below o) (by rw[<-a4];exact(EK.At.of_sl (E:=EC) Ws.chg).below o)).mono ?_;rintro e v1 ⟨u1,rfl,hu,d⟩;have i:=O hu;clear hu;obtain⟨p2,n2,c2,rfl⟩:=iO i;have PD:=Z U d;have Q:=Z Pm d;have V:=Z S d;have OZ:=ac o d;clear U Pm S o;clear d;refine r _ _ ⟨PD,Q⟩ λ_=>?_
 clear r;refine L ?_;refine ai rfl (λK' r=>?_);go_simp;refine(Tw v1 _ i.out (dt cx OZ)).mono ?_;rintro e v2 ⟨x9,rfl,hx,d⟩;have o:=O hx.1;have cz:=O (hx.2.mono OZ.size);clear hx;obtain⟨S,nx,U,rfl⟩:=iO o;have P7:=Z PD d;have M:=Z Q d;have H:=Z V d;have O4:=ac OZ d;clear PD Q V OZ i;clear d;refine r _ _ ⟨P7,M⟩ λ_=>?_
 clear r;refine L ?_;iterate 4 refine aC ?_
 refine ai rfl (λK' r=>?_);rw[if_pos ag];refine qh 52 _ _ rfl (s+1+1) 35 #[hH S nx U] rfl rfl (lT H.out (by rw[bm];exact jd _)) nG (by simp[jX]) (r _ _ ⟨(fp _ Y).trans P7,(fp _ Y).trans M⟩ λ_=>?_);clear r;have W:v2.setCells (s+1+1) 35 (#[hH S nx U]:Array ih).toList=v2.setCell ⟨s+1+1,35,hF⟩ (hH S nx U):=rfl;rw[W];have SX:A ((v2.setCell ⟨s+1+1,35,hF⟩ (hH S nx U)).heap[s]?=T (hK aa 54 (0,0))):=O ((fp _ Y).trans P7);have RR:A ((v2.setCell ⟨s+1+1,35,hF⟩ (hH S nx U)).heap[s+1]?=T (hK C 31 (0,0))):=O ((fp _ Y).trans M);have SC:A ((v2.setCell ⟨s+1+1,35,hF⟩ (hH S nx U)).heap[s+1+1]?=T (hK (aB ⟨fd,u,F,[],[]⟩ (hH hF 0 0) (hH S nx U)).toArray 54 (0,0))):=O (by
  have h:=lQ (i:=35) (hH S nx U) H;rw[YB,zG ⟨fd,u,F,[],[]⟩ _ _ _ al.out]at h;exact h)
 have bN:A (aT (v2.setCell ⟨s+1+1,35,hF⟩ (hH S nx U)) (hH S nx U) (kE (aJ g.tree c.chg) au c.path)):=O (o.ints (rR (i:=35) (X:=X) H SC (λj hj=>by rw[YB];exact Nr ⟨fd,u,F,[],[]⟩ _ _ _ al.out j hj) (by rw[YB];exact(ko ⟨fd,u,F,[],[]⟩ _ _ al.out).2.1) (λk _ hk=>fp _ hk)));have Qx:A (jb w w (v2.setCell ⟨s+1+1,35,hF⟩ (hH S nx U))):=O (O4.setCell (p:=⟨s+1+1,35,hF⟩) (by show w.heap.size<=s+1+1;rw[HG];omega) _);generalize v2.setCell ⟨s+1+1,35,hF⟩ (hH S nx U)=s9 at SX RR SC Qx bN⊢;clear W P7 M H O4 o;refine L ?_;refine aC ?_;refine jG ?_
 by_cases h0:re=0
 case neg=>
  have a5:(re !=0)=true:=by simpa using h0
  have a3:(re==0)=false:=by simpa using h0
  have m:A (er=re):=O (by rw[Zx,bM]);have o:=O h0;clear h0
  go_upto_region 20 with fail
  refine jn ?_;refine cN (v:=hZ B) ag (by rw[<-U7];exact J6 rfl _) ?_;refine L ?_;refine aO ?_;refine jg rfl λ_ r=>jl 54 _ _ rfl (s+1+1) B rfl rfl 54 _ SC.out K.out (by rw[bs];exact(ko ⟨fd,u,F,[],[]⟩ _ _ al.out).2.2) Wu (r _ _ ?_)
  clear r;refine L ?_;refine aO ?_;rename_i KR Tv XR;refine Tv _ _ ?_;refine wp_ret ?_;show jJ _ _ P .ret _ _;exact jK (fU rfl _ _ (s+1+1) 54 B (0,0) _ rfl (jp _ _ _ _ _ _ SC.out) jm rfl K) rfl (HP _ _ ⟨λh=>absurd (m.symm.trans h) o,λ_=>by rw[U7,m];kernel_rfl,jq Qx.out (by rw[HG];omega) _⟩)
 subst h0;have cA:A (er=0):=O (Zx.trans bM.symm);have W:=cell_of SX YJ.2.2.1;have m:cD s9 (s+1) c q:=⟨by rw[RR,ce],QT,cd⟩;have Qq:=O m;clear m
 go_upto_region 22 with fail
 go_wp2_with fail
 refine(K6 g.mem (hH pm nm cm) s9 (bf.below Qx).mem (aw WP)).mono ?_;rintro e t1 ⟨u1,rfl,hu,d⟩;have M:=O hu;have o:=O d;clear hu d W
 go_wp2_with fail
 refine(FA (LA c q (s+1) s9 Qq ((EK.At.of_sl (E:=EC) Ws.chg).below Qx) TC.1) g.mem u1 t1 M o o.size (aw WP)).mono ?_;rintro e t2 ⟨u2,rfl,hu,a1⟩;have PZ:=O hu;have Tz:=O (o.trans a1);obtain⟨p3,c3,Zm⟩:=aL hu;obtain⟨n3,W⟩:=J ((g.mem.filter λm=> !fS c.chg m).length);rw[<-W]at Zm;subst Zm;have Wk:=O W;clear hu a1 o M W;have bl:s+1+1<s9.heap.size:=(je.1 SC).1;have M:=(Tz.block (s+1+1) bl).trans SC;have bO:=cell_of M (ko ⟨fd,u,F,[],[]⟩ _ _ al.out).1;have ds:=KI (o:=34) M;have H:=O M;clear M
 go_upto_region 23 with fail
 obtain⟨mL,bd⟩:∃f:Nat->List Mem,f=λi=>(g.mem.filter λm=> !fS c.chg m)++((c.chg.take i).filter λx=> !(x.k==2)).map λx=>(⟨x.d,u,x.v⟩:Mem):=⟨_,rfl⟩
 have Ty:=O bd;have bo:mL 0=g.mem.filter λm=> !fS c.chg m:=by rw[bd];simp
 have bT:∀i,(mL i).length<=900100:=λi=>by
  rw[bd];have h1:=qb (λm=> !fS c.chg m) g.mem;have h2:=qb (λx:Chg=> !(x.k==2)) (c.chg.take i);have h3:=List.length_take_le i c.chg;have M:=TW.len;have h5:=WP.out;simp only[jF,jr];have h6:(c.chg.take i).length<=c.chg.length:=List.length_take_le' _ _;omega
 have b4:=O bT;obtain⟨M,hM⟩:=J s9.heap.size;have Qd:A (s+1+1<M):=O (by rw[hM];exact bl);have bn:∀ad v,((λv=>(aB ⟨fd,u,F,[],[]⟩ v (hH S nx U)).toArray) ad).setIfInBounds 34 v=(λv=>(aB ⟨fd,u,F,[],[]⟩ v (hH S nx U)).toArray) v:=λad v=>z8 ⟨fd,u,F,[],[]⟩ ad _ v al
 have cL:=O bn;have Z2:=O hM;have a1:=da.first (M:=M) (R:=s+1+1) (i:=34) (X:=(λv=>(aB ⟨fd,u,F,[],[]⟩ v (hH S nx U)).toArray)) (e:=68) (sz:=3) (w0:=s9) H.out (by rw[hM];exact PZ) (by rw[hM];exact Tz) (by rw[hM];exact Tz.size) Qd (bn _ (hH p3 n3 c3));rw[<-Wk,<-bo]at a1;clear bd bo bT hM bn H PZ Tz bl;have W:n3=(mL 0).length:=by rw[Ty,Wk];simp
 generalize t2.setCell ⟨s+1+1,34,hF⟩ (hH p3 n3 c3)=W9 at a1⊢;have Sf:=O a1;have UH:=O W;clear W a1;have hA:W9.heap[s]?=T (hK aa 54 (0,0)):=(Sf.but.block s (aw Qd) Y).trans SX;have hC:W9.heap[s+1]?=T (hK C 31 (0,0)):=(Sf.but.block (s+1) (aw Qd) Y).trans RR;have bT:=Ws.chg;rw[a4]at bT;obtain⟨Vq,p1,q1,cX,UY,a2,H⟩:=bT;injection cX with e1 W e3
 subst e1;subst e3;have bl:=O W;rw[<-W]at UY H;have b5:=O H;clear Vq a2 H W;have Rq:=cell_of hC t.2.2.2.1;have T6:A (nc<=64):=O (by rw[bl];exact TW.len);clear hA hC
 go_wp2_with fail
 go_loopw [123] (λv wr=>∃(i m:Nat) (H:Option Addr) (W:Nat),v=I N i/\i<=nc/\A (m=(mL i).length)/\A (da M (s+1+1) 54 68 3 (λv=>(aB ⟨fd,u,F,[],[]⟩ v (hH S nx U)).toArray) s9 wr m (hH H m W) (EM.flat (mL i)))) (λv _=>nc-(intOf v).toNat)
 case atStart=>exact⟨0,n3,p3,c3,rfl,Nat.zero_le _,UH,Sf⟩
 clear Sf UH Rq;obtain⟨i,m,H,W,rfl,hi,HM,HR⟩:=hrel;have ZQ:=T6.out
 by_cases b6:i<nc
 ·have hd:=ap ((i:Int)<(nc:Int))
  have PX:=ap (i<nc);obtain⟨g0,o,rfl,a2,bd⟩:=b5 Y;obtain⟨x,hx,SK⟩:=mY (l:=c.chg) (j:=i) (by rw[<-bl];exact b6);have bn:g0<M:=by have:=Qd.out;have:=HG.out;omega
  have bo:g0≠s+1+1:=aw HG;have QH:=(HR.but.block g0 bn bo).trans (Qx.block g0 a2);have a1:=λk hk=>(bz (a:=⟨g0,o+(i*5+k),hF⟩) QH).trans (bd (i*5+k) _ ((flat_get Chg.cells 5 (λ_=>rfl) c.chg i k x hx hk).trans (show x.cells[k]?=T (x.cells.getD k (I N 0)) by have:x.cells.length=5:=rfl;simp[mb,j0 (show k<x.cells.length by omega)])))
  have d0:wr.cell? ⟨g0,o+i*5,hF⟩=T (I N x.k):=a1 0 G;have d1:wr.cell? ⟨g0,o+i*5+1,hF⟩=T (I N x.d):=a1 1 G;have d2:wr.cell? ⟨g0,o+i*5+2,hF⟩=T (I N x.p):=a1 2 G;have d3:wr.cell? ⟨g0,o+i*5+3,hF⟩=T (I N x.v):=a1 3 G;have d4:wr.cell? ⟨g0,o+i*5+4,hF⟩=T (I N x.c):=a1 4 G;have b7:=Hb g.mem c.chg u SK;have Qa:A (mL (i+1)=mL i++(if x.k=2 then []else [⟨x.d,u,x.v⟩])):=O (by rw[Ty];exact b7);have b8:A (wr.heap[s+1]?=T (hK C 31 (0,0))):=O ((HR.but.block (s+1) (aw Qd) Y).trans RR);clear bn bo QH a1 bd hx SK b7 a2
  go_upto_region 26 with fail
  obtain⟨bx,bn⟩:=J wr.heap.size;have a2:=jo wr (hK #[I N x.k,I N x.d,I N x.p,I N x.v,I N x.c] 59);have d:=af wr (hK #[I N x.k,I N x.d,I N x.p,I N x.v,I N x.c] 59);have RY:A ((pz H m W).ownBlock≠T bx):=O (bU HR.own (.inl (jD bn.symm)));rw[<-bn]at a2⊢;obtain⟨k0,Ru⟩:=J (wr.alloc (hK #[I N x.k,I N x.d,I N x.p,I N x.v,I N x.c] 59));rw[<-Ru]at a2 d⊢;have bd:=O (HR.later Qd d);have bo:=Z b8 d;have Uc:=O a2;clear a2 d Ru bn HR b8 d0 d1 d2 d3 d4
  by_cases a2:x.k=2
  ·have a3:(x.k !=2)=false:=by simpa using a2
   have e0:k0.cell? ⟨bx,0,hF⟩=T (I N x.k):=cell_of Uc rfl;have P8:=O a2;clear a2
   go_wp2_with fail
   refine⟨⟨i+1,m,H,W,by go_num,by omega,O ?_,O ?_⟩,?_⟩
   ·rw[Qa,if_pos P8.out,pr];exact HM
   ·rw[Qa,if_pos P8.out,pr];exact bd
   simp only[intOf];omega
  have a3:(x.k !=2)=true:=by simpa using a2
  have e0:k0.cell? ⟨bx,0,hF⟩=T (I N x.k):=cell_of Uc rfl;have P8:=O a2;clear a2;have bn:=O bd.box;have b7:A (((λv=>(aB ⟨fd,u,F,[],[]⟩ v (hH S nx U)).toArray) (hH H m W))[34]?=T (hH H m W)):=O (ko ⟨fd,u,F,[],[]⟩ _ _ al.out).1;have bm:A (((λv=>(aB ⟨fd,u,F,[],[]⟩ v (hH S nx U)).toArray) (hH H m W)).size=36):=O (ko ⟨fd,u,F,[],[]⟩ _ _ al.out).2.2
  go_upto_region 27 with fail
  clear e0;refine jn ?_;have b0:=cell_of bn b7;have b1:=cell_of (i:=1) Uc rfl;have b2:=cell_of bo t.2.1;have b3:=cell_of (i:=3) Uc rfl;iterate 9 refine aO ?_
  clear b0 b1 b2 b3;refine jg rfl λ_ r=>?_
  go_simp;have d:=af k0 (hK #[I N x.d,I N u,I N x.v] 68);have O9:=jo k0 (hK #[I N x.d,I N u,I N x.v] 68);obtain⟨k1,hx⟩:=J (k0.alloc (hK #[I N x.d,I N u,I N x.v] 68));have P2:=ei k0 [I N x.d,I N u,I N x.v] 68 (0,0) 3 1 1 rfl (jd _);replace P2:bW (k0.alloc (hK #[I N x.d,I N u,I N x.v] 68)) (hH (T ⟨k0,0,hF⟩) 1 1) 3 1 [I N x.d,I N u,I N x.v]:=P2;rw[<-hx]at P2;have Tw:=O P2;clear P2;rw[<-hx]at d O9⊢;have a2:=O (bd.later Qd d);have b8:=Z bn d;have UO:=Z Uc d;have b5:=Z bo d;clear bd bn Uc bo;have Rz:=O O9;clear O9 hx d;refine r _ _ ?_;clear r;refine L ?_;refine jg rfl λ_ r=>?_
  refine G3 _ _ rfl M (hH H m W) m _ rfl a2.own _ 1 _ rfl Tw (by simp[jX]) (by have h1:=b4 i;rw[<-HM]at h1;omega) a2.sz' λv' m2 Vn=>?_
  have Pj:=Vn.own;obtain⟨pn,cn,rfl⟩:=aL Pj;have QB:=dW b8 Vn.grown (bU a2.own (.inr Qd));refine r _ _ ?_;replace Vn:=O Vn;have TJ:A (da M (s+1+1) 54 68 3 (λv=>(aB ⟨fd,u,F,[],[]⟩ v (hH S nx U)).toArray) s9 (m2.setCell ⟨s+1+1,34,hF⟩ (hH pn (m+1) cn)) (m+1) (hH pn (m+1) cn) (EM.flat (mL (i+1)))):=O (by
   have h:=a2.push (i:=34) Qd Vn (cL _ _);rw[Qa,if_neg P8.out,EK.flat_append,EK.flat_one];exact h)
  clear r Pj;refine L ?_;refine aO ?_;refine jg rfl λ_ r=>?_
  obtain⟨⟨vo,bd⟩,f3,-,-⟩:=bP (i:=34) (hH pn (m+1) cn) QB (by rw[bm];decide);go_simp;refine r _ _ ?_;clear r bd f3 QB
  go_wp2_with fail
  refine⟨⟨i+1,m+1,pn,cn,by go_num,by omega,O ?_,TJ⟩,?_⟩
  ·rw[Qa,if_neg P8.out,jF,<-HM];rfl
  simp only[intOf];omega
 have hd:=ar ((i:Int)<(nc:Int));have PX:=ar (i<nc);have a2:mL i=gM g.mem c.chg c.epoch:=by
  rw[Ty,bb];dsimp only;unfold gM;rw[qu (by rw[<-bl];omega)]
 have dv:=O a2;have b3:A (Fr w.heap.size (hH H m W)):=O ((Fr.of_own HR.own).mono (by rw[Z2];exact Qx.size));have Pj:=HR.own;have UE:=HM.out;rw[a2]at Pj UE;rw[UE]at Pj;have R9:=O Pj;have Y8:=O UE;have bO:=cell_of HR.box (ko ⟨fd,u,F,[],[]⟩ (hH H m W) (hH S nx U) al).1;have RF:=O (Na (ep:=c.epoch) (Mw U4) TW.once);have b7:A ((gM g.mem c.chg c.epoch).length<=1000000):=O (by rw[<-a2];have:=b4 i;omega);clear a2 Pj UE
 go_upto_region 29 with fail
 go_wp2_with fail
 refine(Fo (gM g.mem c.chg c.epoch) RF M (hH H m W) wr (by rw[Y8];exact R9) HR.sz' b7).mono ?_;rintro e f1 ⟨rfl,Qb,d⟩;have QU:=O Qb;have WE:=O d;have bn:A (f1.heap[s+1+1]?=T (hK ((λv=>(aB ⟨fd,u,F,[],[]⟩ v (hH S nx U)).toArray) (hH H m W)) 54 (0,0))):=O ((d.block (s+1+1) Qd).trans HR.box);have b8:A (jb w w f1):=O (Qx.trans ((HR.but.below (n:=w.heap.size) (by rw[HG];omega) (dP Qd HG)).trans (d.mono (dP Qd HG))));have cn:A (∀k,k<s9.heap.size->k≠s+1+1->f1.heap[k]?=s9.heap[k]?):=O (λk hk hn=>(d.block k (by rw[Z2];exact hk)).trans (HR.but.block k (by rw[Z2];exact hk) hn));clear Qb d HR bO hd PX b6;obtain⟨d,hY⟩:=J ((λv=>(aB ⟨fd,u,F,[],[]⟩ v (hH S nx U)).toArray) (hH H m W));have bo:d.size=36:=by rw[hY];exact(ko ⟨fd,u,F,[],[]⟩ _ _ al.out).2.2
 have b0:(ja.info? 54).map (·.size)=T d.size:=by rw[bo];kernel_rfl
 have b1:d.all (·.oneCell')=true:=by
  rw[hY,qc];intro ad hu;simp only[aB,qd,jw,kw,qe,or_false]at hu
  rcases hu with rfl|rfl|hu|rfl|rfl
  ·rfl
  ·rfl
  ·exact gs _ ad hu
  ·rfl
  rfl
 have a2:A (f1.heap[s+1+1]?=T (hK d 54 (0,0))):=O (by rw[hY];exact bn);have b2:=O hY;have bd:=O b0;have b6:=O b1;clear hY bo b0 b1 bn
 go_upto_region 30 with fail
 refine jn ?_;refine cN (v:=hZ d) ag (fR jm rfl bd rfl rfl a2) ?_;refine L ?_;refine jg rfl λ_ r=>jl 54 _ _ rfl (s+1+1) d rfl rfl 54 _ a2.out bd rfl b6 (r _ _ ?_)
 clear r;refine L ?_;refine aO ?_;rename_i KR Tv XR;refine Tv _ _ ?_;refine wp_ret ?_;show jJ _ _ P .ret _ _;refine jK (fU rfl _ _ (s+1+1) 54 d (0,0) _ rfl (jp _ _ _ _ _ _ a2.out) jm rfl bd) rfl (HP _ _ ⟨λ_=>⟨hH H m W,hH S nx U,?_,ca _ _ _ ?_ ?_,b3,cz⟩,λh=>absurd cA h,jq b8.out (by rw[HG];omega) _⟩)
 ·rw[b2]
  have h1:(λv=>(aB ⟨fd,u,F,[],[]⟩ v (hH S nx U)).toArray) (hH H m W)=(aB NG (hH H m W) (hH S nx U)).toArray:=by
   show(aB ⟨fd,u,F,[],[]⟩ _ _).toArray=_;rw[bk,bb];exact congrArg List.toArray (b9 F Yo _ _)
  exact congrArg (λz=>Ending.returned (jj #[hZ z,I N 0])) h1
 ·rw[dq a2]
  exact QU
 have h2:(f1.setRow (s+1+1) d).heap[s+1+1]?=T (hK ((λv=>(aB ⟨fd,u,F,[],[]⟩ v (hH S nx U)).toArray) (hH H m W)) 54 (0,0)):=(jp f1 (s+1+1) d _ _ _ a2.out).trans (congrArg (λz=>T (Obj.cells z 54 (0,0))) b2);have h3:aT (f1.setRow (s+1+1) d) (hH S nx U) (kE (aJ g.tree c.chg) au c.path):=bN.ints (rR (i:=34) (X:=(λv=>(aB ⟨fd,u,F,[],[]⟩ v (hH S nx U)).toArray) (hH hF 0 0)) SC h2 (λj hj=>I3 ⟨fd,u,F,[],[]⟩ _ _ _ al.out j hj) (ko ⟨fd,u,F,[],[]⟩ _ _ al.out).1 (λk hk hn=>(jz _ _ _ _ hn).trans (cn k hk hn)));rw[ZZ]at h3;exact h3
theorem C4(g:Grp)(vm vt:ih)(c:Cmt)(q:CQ)(w:hQ)(h:cS w g vm vt)(d:az (·<w.heap.size) w c q)(f:dy (aA c))(i:cJ w)(j:g.mem.length<=900000)(k:g.tree.length<=600000):
 jh ja 14 #[hZ (aB g vm vt).toArray,hZ (aj c q).toArray] w (Hh g c w):=by
 refine(G2 g vm vt c q w h d f i j k).mono ?_;rintro e w' ⟨l,m,n⟩;refine⟨λh=>?_,m,n⟩;obtain⟨vm,vt,a,b,-⟩:=l h;exact⟨vm,vt,a,b⟩
def kb(b:BitVec 8):LBy:=b::kl 31 0#8
theorem iQ(b:BitVec 8):(kb b).length=32:=by simp[kb]
def kA(b:BitVec 8):Array ih:=((kb b).map v8).toArray
def vN:ih:=hH hF 0 0
def AG3:Array ih:=(aB bZ vN vN).toArray
def ZG0:Array ih:=(aB eH vN vN).toArray
theorem Iv:(ja.info? 54).map (·.size)=T AG3.size:=by kernel_rfl
theorem It(b:BitVec 8):(ja.info? 55).map (·.size)=T (kA b).size:=by kernel_rfl
theorem G5:AG3.all (·.oneCell')=true:=by kernel_rfl
theorem IK{a:Act}{o:jy}(b:o.op=.build 54 #[(0,.const (I N 3))])(W:hQ):
 (jt a.eval o).run ja W=.ok (.value (hZ AG3)) W:=by
 simp only[jt,b]
 kernel_rfl
theorem ua{a:Act}{o:jy}(b:o.op=.build 54 #[])(W:hQ):(jt a.eval o).run ja W=.ok (.value (hZ ZG0)) W:=by
 simp only[jt,b]
 kernel_rfl
theorem C3{a:Act}{o:jy}(b:o.op=.build 31 #[])(W:hQ):(jt a.eval o).run ja W=.ok (.value (hZ ZC)) W:=by
 simp only[jt,b]
 kernel_rfl
theorem Bi{a:Act}{o:jy}(b:o.op=.build 55 #[])(W:hQ):(jt a.eval o).run ja W=.ok (.value (hZ (kA 0#8))) W:=by
 simp only[jt,b]
 kernel_rfl
theorem uk{a:Act}{o:jy}(b:o.op=.build 55 #[(0,.const (I .u8 1))])(W:hQ):(jt a.eval o).run ja W=.ok (.value (hZ (kA 1#8))) W:=by
 simp only[jt,b]
 kernel_rfl
theorem My{a:Act}{o:jy}(b:o.op=.build 55 #[(0,.const (I .u8 2))])(W:hQ):(jt a.eval o).run ja W=.ok (.value (hZ (kA 2#8))) W:=by
 simp only[jt,b]
 kernel_rfl
theorem Ch{a:Act}{o:jy}(b:o.op=.build 55 #[(0,.const (I .u8 3))])(W:hQ):(jt a.eval o).run ja W=.ok (.value (hZ (kA 3#8))) W:=by
 simp only[jt,b]
 kernel_rfl
theorem M8:∀w:hQ,(Instr.alloc 54 true (jj #[])).run ja w=.ok (ji (T ⟨w,0,hF⟩)) (w.alloc (hK ZG0 54)):=λ_=>by kernel_rfl
theorem Az:∀w:hQ,(Instr.alloc 31 true (jj #[])).run ja w=.ok (ji (T ⟨w,0,hF⟩)) (w.alloc (hK ZC 31)):=λ_=>by kernel_rfl
theorem GL:∀w:hQ,(Instr.alloc 55 true (jj #[])).run ja w=.ok (ji (T ⟨w,0,hF⟩)) (w.alloc (hK (kA 0) 55)):=λ_=>by kernel_rfl
theorem yo:(fD bZ (kb 1#8) (kb 2#8)).length=32:=tR _ _
theorem nV(w:hQ)(g:Grp)(a:g.mem=[])(b:g.tree=[])(c:g.last.length=32):cS w g vN vN:=by
 refine⟨by rw[a];exact⟨rfl,hF,0,rfl,jd _,λ_=>rfl,λh=>absurd h (qf _)⟩,by rw[b];exact sK w,c⟩
theorem Lh(g:Grp)(p b:Option Addr)(n n' c d:Nat):(aB g (hH p n c) (hH b n' d)).toArray.all (·.oneCell')=true:=by
 rw[qc];intro e a;simp only[aB,qd,jw,kw,qe,or_false]at a
 rcases a with rfl|rfl|a|rfl|rfl
 ·rfl
 ·rfl
 ·exact AH _ _ a
 ·rfl
 rfl
theorem mg{D:Nat->Prop}{w:hQ}{c:Cmt}{q:CQ}(a:az D w c q):(aj c q).toArray.all (·.oneCell')=true:=by
 obtain⟨b,d,e,f⟩:=q;obtain⟨⟨-,g,h,rfl,-⟩,⟨-,i,j,rfl,-⟩,⟨k,⟨-,l,m,rfl,-⟩,-⟩,⟨n,⟨-,o,p,rfl,-⟩,-⟩,-⟩:=a;exact mj _ _ _ _ _ _ _ _ _ _ _ _ _
theorem si{D:Nat->Prop}{w:hQ}{sz:Nat}:ah D w (hH hF 0 0) sz 0 []:=⟨by simp,hF,0,rfl,jd _,λ_=>rfl,λh=>absurd h (qf _)⟩
theorem tA{D:Nat->Prop}{w:hQ}:az D w dG eX:=⟨si,si,⟨[],si,rfl⟩,⟨[],si,rfl⟩,rfl,rfl⟩
theorem EY:fh dG:=by
 refine⟨⟨?_,?_,?_,?_,?_⟩,rfl,rfl,⟨by decide,λx a=>by cases a⟩,⟨by decide,λx a=>by cases a⟩,⟨by decide,λx a=>by cases a⟩,⟨by decide,λx a=>by cases a⟩⟩<;>exact⟨by decide,by decide⟩
structure fV(w:hQ):Prop where
 t:iB w
 s:fL w
theorem fV.below{w w':hQ}(h:fV w)(a:jb w w w'):fV w':=⟨h.t.below a,h.s.below a⟩
abbrev ptr(g:Nat):ih:=ji (T ⟨g,0,hF⟩)
def lO(c:ju)(d:Array ih)(e:hQ)(b:Bool)(a:ih)(W:hQ):Prop:=
 (b=true->∃g,a=ptr g/\W.heap[g]?=T (hK d c (0,0))/\e.heap.size<=g)/\(b=false->a=hU)
theorem lO.keep{a:ju}{c:Array ih}{d W f:hQ}{b:Bool}{i:ih}(h:lO a c d b i W)(j:jb W W f):lO a c d b i f:=
 ⟨λe=>let⟨g,k,l,m⟩:=h.1 e;⟨g,k,ak l j,m⟩,h.2⟩
theorem lO.ne{c:ju}{d:Array ih}{f W:hQ}{b:Bool}{a:ih}(h:lO c d f b a W){g:Nat}(j:W.heap.size<=g):a≠ptr g:=by
 cases b with
 |true=>
  obtain⟨k,rfl,i,-⟩:=h.1 rfl;intro e;injection e with e
  injection e with e
  injection e with e
  have:=(je.1 i).1;omega
 |false=>rw[h.2 rfl];intro e;cases e
def LH(b:hQ)(e:Nat)(d m n o p r:Array ih)(f h i k:Int)(c:Cmt)(l:Array ih)(j:Nat)(s t:Bool)(a:Act)(W:hQ):Prop:=
 ∃T2 T3 YU YV Ye Wy VR VS VQ VP,a={tmps:=#[.bool false,ptr e,T2,T3,hU,hU,hU,hU,hU,hU,hU,hU,hU,hU,hU,hU,hU,hU,hU,hU,hU,hU,hZ d,YU,hZ d,YV,Ye,Wy,hZ m,hZ n,hZ o,VR,VS,VQ,VP,hU,hU,hU,hU,hU,hU,hU,hU,hU,hU,hU,hU,hU,hU,hU,hU,hU,hU,hU,hU,hU,hU,hU,hU,hU,hU,hU,hU,hU,hU,hU,hU,hU,hU,hU,hU,hU,hU,hU,hU,hU,hU,hU,hU,hU,hU,hU,hU,hU,hU,hU,hU,hU,hU,hU,hU,hU,hU,hU,hU,hU,hU,hU,hU,hU,hU,hU,hU,hU,hU,hU,hU,hU,hU,hU,hU,hU,hU,hU,hU,hU,hU,hU,hU,hU,hU,hU,hU,hU,hU,hU,hU,hU,hU,hU,hU,hU,hU,hU,hU,hU,hU,hU,hU,hU,hU,hU,hU,hU,hU,hU,hU,hU,hU,hU,hU,hU,hU,hU,hU,hU,hU,hU,hU,hU,hU,hU,hU,hU,hU,hU,hU,hU,hU,hU,hU,hU,hU,hU,hU,hU,hU,hU,hU,hU,hU,hU,hU,hU,hU],defers:=[]}/\jb b b W/\W.heap[e]?=T (hK d 54 (0,0))/\
  (1<=j->YV=hZ #[I N 1,I N 4,I N f,I N h,I N 0])/\(2<=j->Ye=hZ #[I N 1,I N 7,I N i,I N k,I N 0])/\
  (j=3->ah (·<W.heap.size) W Wy 5 2 [I N 1,I N 4,I N f,I N h,I N 0,I N 1,I N 7,I N i,I N k,I N 0])/\
  (4<=j->∃(q:CQ) (D:Nat->Prop),(VR=jj #[hZ (aj c q).toArray,hZ l,I N 0]/\(5<=j->YU=VR)/\(6<=j->VS=hZ (aj c q).toArray)/\(7<=j->VQ=hZ l)/\(8<=j->VP=I N 0))/\az D W c q/\∀g,D g->b.heap.size<=g/\g<W.heap.size/\T2≠ptr g/\T3≠ptr g)/\
  lO 31 p b s T2 W/\lO 55 r b t T3 W
theorem Kl(w:hQ)(hT:fV w):jh ja 4 #[] w λe w'=>e=jf (.bool true)/\jb w w w':=by
 have HT:=O hT;have z:=jo w (hK ZG0 54);have U:=af w (hK ZG0 54);obtain⟨R,f⟩:=J AG3;obtain⟨s,d⟩:=J ZG0;have br:=O f;have bf:=O d;have bb:A ((ja.info? 54).map (·.size)=T R.size):=O (by rw[f];exact Iv);have ca:A (R.all (·.oneCell')=true):=O (by rw[f];exact G5);have bs:A (s.size=R.size):=O (by rw[f,d];rfl);have bg:A (∀w:hQ,(Instr.alloc 54 true (jj #[])).run ja w=.ok (ji (T ⟨w,0,hF⟩)) (w.alloc (hK s 54))):=O (by rw[d];exact M8);rw[<-d]at z U;obtain⟨OY,M⟩:=J w.heap.size;rw[<-M]at z;obtain⟨K1,B⟩:=J (kA 1#8);obtain⟨K2,K⟩:=J (kA 2#8);obtain⟨K3,D⟩:=J (kA 3#8);obtain⟨P,i⟩:=J (kA 0#8);obtain⟨u,j⟩:=J ZC;have Rc:=O B;have P8:=O K;have QG:=O D;have bh:=O i;have a5:=O j;obtain⟨F,S⟩:∃y:Int,y=((aG 4 (1000+4):Nat):Int):=⟨_,rfl⟩;obtain⟨H,V⟩:∃y:Int,y=((aG 4 (100+4):Nat):Int):=⟨_,rfl⟩;obtain⟨p7,X⟩:∃y:Int,y=((aG 4 (1000+7):Nat):Int):=⟨_,rfl⟩;obtain⟨q7,aa⟩:∃y:Int,y=((aG 4 (100+7):Nat):Int):=⟨_,rfl⟩;have E:(cV 4).cells=[I N 1,I N 4,I N F,I N H,I N 0]:=by rw[S,V];rfl
 have a2:(cV 7).cells=[I N 1,I N 7,I N p7,I N q7,I N 0]:=by rw[X,aa];rfl
 have cc:A (df.flatMap Chg.cells=[I N 1,I N 4,I N F,I N H,I N 0,I N 1,I N 7,I N p7,I N q7,I N 0]):=O (by unfold df;rw[ms,ms,p6,E,a2];rfl);have Tx:A (∀W:hQ,jh ja 13 #[I N 4] W λe w'=>e=jf (hZ #[I N 1,I N 4,I N F,I N H,I N 0])/\jb W W w'):=O (λW=>by
  have h:=yF 4 G W;rw[E]at h;exact h)
 have bq:A (∀W:hQ,jh ja 13 #[I N 7] W λe w'=>e=jf (hZ #[I N 1,I N 7,I N p7,I N q7,I N 0])/\jb W W w'):=O (λW=>by
  have h:=yF 7 G W;rw[a2]at h;exact h)
 obtain⟨Q,m⟩:=J (((fD bZ (kb 1#8) (kb 2#8)).map v8).toArray);obtain⟨c,r⟩:=J c47;have bu:=O m;have bv:A ((ja.info? 55).map (·.size)=T Q.size):=O (by rw[m,jC,jr,yo];kernel_rfl);have cd:A (P.size=Q.size):=O (by
  have a:((fD bZ (kb 1#8) (kb 2#8)).map v8).toArray.size=32:=by rw[jC,jr,yo]
  rw[m,i,a]
  rfl)
 have ce:A (Q.all (·.oneCell')=true):=O (by rw[m];exact dA _);have HC:=O r;have cf:A (∀(W:hQ) (q:CQ),fV W->az (·<W.heap.size) W c q->jh ja 14 #[hZ R,hZ (aj c q).toArray] W λe w'=>
  (∃vm vt,e=jf (jj #[hZ (aB (dx bZ c) vm vt).toArray,I N 0])/\cS w' (dx bZ c) vm vt)/\jb W W w'):=O (λW q ht x=>by
   rw[f];rw[r]at x⊢;refine(C4 bZ vN vN c47 q W (nV W bZ rfl rfl rfl) x lJ.encOk ht.s.dig G G).mono ?_;rintro e w' ⟨h1,-,b⟩;exact⟨h1 J4,b⟩)
 have n:∀(W:hQ) (v:ih),ah (·<W.heap.size) W v 5 1 [I N 1,I N 4,I N F,I N H,I N 0]->ah (·<W.heap.size) W v 5 [cV 4].length ([cV 4].flatMap Chg.cells):=λW v h=>by
  rw[ms,p6,E];exact h
 have cj:A (∀(W:hQ) (a:ih),fV W->ah (·<W.heap.size) W a 5 1 [I N 1,I N 4,I N F,I N H,I N 0]->
  jh ja 12 #[hZ s,I N 3,I N 103,a,hZ K1,hZ P,hZ K3] W λe w'=>e=jf (jj #[hZ u,hZ P,I N 221])/\jb W W w'):=O (λW a ht l=>by
   rw[d,B,D,i,j];refine(Du eH vN vN a 3 103 [cV 4] (kb 1#8) (kb 0#8) (kb 3#8) W (nV W eH rfl rfl G) (n W a l) (iQ _) (iQ _) (iQ _) ht.t ht.s G G G).mono ?_;rintro e w' ⟨-,h2,b⟩;have g:=h2 (by rw[De];decide);rw[De]at g;exact⟨g,b⟩)
 have RF:A (∀(W:hQ),jh ja 15 #[hZ s,I N 0,hH hF 0 0] W λe w'=>(∃ad,e=jf (jj #[ad,I N 221]))/\jb W W w'):=O (λW=>by
  rw[d];refine(sS eH vN vN (hH hF 0 0) 0 [] W (nV W eH rfl rfl G) ⟨rfl,hF,0,rfl,jd _,λ_=>rfl,λh=>absurd h (qf _)⟩ G G G).mono ?_;rintro e w' ⟨ad,h1,-,b⟩;rw[H8]at h1;exact⟨⟨ad,h1⟩,b⟩)
 have ck:A (∀(W:hQ) (a:ih),ah (·<W.heap.size) W a 5 1 [I N 1,I N 4,I N F,I N H,I N 0]->jh ja 15 #[hZ R,I N 4,a] W λe w'=>(∃p k,e=jf (jj #[hH p 0 k,I N 0]))/\jb W W w'):=O (λW a l=>by
  rw[f];refine(sS bZ vN vN a 4 [cV 4] W (nV W bZ rfl rfl rfl) (n W a l).row G G G).mono ?_;rintro e w' ⟨ad,h1,h2,b⟩;rw[Bg]at h1;rw[Fz]at h2;obtain⟨p,k,rfl⟩:=aL h2;exact⟨⟨p,k,h1⟩,b⟩)
 have cn:A (∀(W:hQ),fV W->jh ja 16 #[hZ K1] W λe w'=>∃v,e=jf v/\w'.ownsRow W 55 32 v 10 (fy (fg (kb 1#8) 10))/\jb W W w'):=O (λW ht=>by
  rw[B];exact zZ (kb 1#8) (iQ _) W ht.s.dig)
 clear n;have Wm:A (∀(W:hQ),fV W->jh ja 14 #[hZ s,hZ u] W λe w'=>e=jf (jj #[hZ s,I N 220])/\jb W W w'):=O (λW ht=>by
  rw[d,j];refine(C4 eH vN vN dG eX W (nV W eH rfl rfl G) tA EY.encOk ht.s.dig G G).mono ?_;rintro e w' ⟨-,h2,b⟩;have g:=h2 (by rw[CZ];decide);rw[CZ]at g;exact⟨g,b⟩)
 obtain⟨t,C⟩:=J (enc (vL (aA c47)));have Zl:=O C;have cp:A (∀(W:hQ) (q:CQ),az (·<W.heap.size) W c q->jh ja 6 #[hZ (aj c q).toArray] W λe w'=>(∃v,e=jf (jj #[v,I N 0])/\w'.ownsRow W 5 1 v t.length (t.map v8))/\jb W W w'):=O (λW q x=>by
  rw[r]at x⊢;rw[C];refine(rl c47 q W x lJ.encOk).mono ?_;rintro e w' ⟨h1,-,b⟩;exact⟨h1 m7.chk,b⟩)
 have cq:A (∀(W:hQ) (p:Option Addr) (n k:Nat),ah (·<W.heap.size) W (hH p n k) 1 t.length (t.map v8)->jh ja 8 #[hH p n k] W λe w'=>(∃q,e=jf (jj #[hZ (aj c q).toArray,I N 0])/\az (λg=>W.heap.size<=g/\g<w'.heap.size) w' c q)/\jb W W w'):=O (λW p n k l=>by
  refine(Ey t p n k W l (by rw[C];exact lJ.encOk.len)).mono ?_;rw[C,MI,<-r];rintro e w' ⟨h1,h2⟩;exact⟨h2,h1⟩)
 clear C;have bw:A (∀(W:hQ) (a:ih),fV W->ah (·<W.heap.size) W a 5 2 [I N 1,I N 4,I N F,I N H,I N 0,I N 1,I N 7,I N p7,I N q7,I N 0]->
  jh ja 12 #[hZ R,I N 4,I N 104,a,hZ K1,hZ K2,hZ K3] W λe w'=>(∃q,e=jf (jj #[hZ (aj c q).toArray,hZ Q,I N 0])/\az (λk=>W.heap.size<=k/\k<w'.heap.size) w' c q)/\jb W W w'):=O (λW a ht l=>by
   rw[f,B,K,D,m,r];refine(Du bZ vN vN a 4 104 df (kb 1#8) (kb 2#8) (kb 3#8) W (nV W bZ rfl rfl rfl) (by rw[cc];exact l) (iQ _) (iQ _) (iQ _) ht.t ht.s G G G).mono ?_;rintro e w' ⟨h1,-,b⟩;exact⟨h1 JC,b⟩)
 have cr:A ((ja.info? 54).map (·.size)=T s.size):=O (by rw[d];kernel_rfl);have cs:A (s.all (·.oneCell')=true):=O (by rw[d];kernel_rfl);have cu:A ((ja.info? 31).map (·.size)=T u.size):=O (by rw[j];exact mi);have cv:A (u.all (·.oneCell')=true):=O (by rw[j];exact pS);have cw:A ((ja.info? 55).map (·.size)=T P.size):=O (by rw[i];exact It _);have cx:A (P.all (·.oneCell')=true):=O (by rw[i];exact dA _);have bk:A (∀w:hQ,(Instr.alloc 31 true (jj #[])).run ja w=.ok (ji (T ⟨w,0,hF⟩)) (w.alloc (hK u 31))):=O (by rw[j];exact Az);have bA:A (∀w:hQ,(Instr.alloc 55 true (jj #[])).run ja w=.ok (ji (T ⟨w,0,hF⟩)) (w.alloc (hK P 55))):=O (by rw[i];exact GL);clear B K D i j S V X aa E a2 m r;have QO:=O z;have HG:=O M;have Rv:A (((w.alloc (hK s 54)).setRow OY R).heap[OY]?=T (hK R 54 (0,0))):=O (jp _ _ _ _ _ _ z);have X:A (jb w w ((w.alloc (hK s 54)).setRow OY R)):=O (jq U (jD M.symm) R);clear hT z U f d M
 go_enter func4,ntmps4
 go_upto_region 1 with fail
 refine jn ?_;refine cN (v:=hZ R) ag (by rw[br];exact IK rfl _) ?_;refine L ?_;refine jg rfl λ_ l=>fu 54 rfl s bg (l _ _ ?_)
 clear l;refine L ?_;rw[<-HG];refine jg rfl λ_ l=>jl 54 _ _ rfl OY R rfl rfl 54 s QO bb bs ca (l _ _ ?_)
 clear l QO;refine L ?_;generalize(w.alloc (hK s 54)).setRow OY R=x1 at Rv X⊢
 go_upto_region 2 with fail
 have a1:x1.drew.heap[OY]?=T (hK R 54 (0,0)):=Rv.out;refine jI ?_;refine Gz (λm=>m.heap[OY]?=T (hK R 54 (0,0))) [0,4,5,6] [(1,false),(2,false),(3,false),(7,false),(8,true),(9,true),(10,true),(11,true)] 12 13 (.one 14 (.one 15 (.take 16 .done))) (LH x1.drew OY R K1 K2 K3 u P F H p7 q7 c Q) ae ae ae ae ae G (λ_ _ _ _ h=>h) a1 ?hI ?hT ?hC ?h1 ?h2 ?hE ?h0
 case hI=>
  rintro j K b2 a W ⟨T2,T3,YU,YV,Ye,Wy,VR,VS,VQ,VP,rfl,B,f,-⟩;exact f
 case h1=>
  rintro j b2 a W ⟨T2,T3,YU,YV,Ye,Wy,VR,VS,VQ,VP,rfl,B,f,ZA,ZB,C,aa,V,R7⟩;refine j5 (o:=_) rfl (λK' l=>?_);rw[if_pos ag];refine fu 31 rfl u bk ?_;have d:=af W (hK u 31);refine l _ _ ⟨ptr W.heap.size,T3,YU,YV,Ye,Wy,VR,VS,VQ,VP,rfl,B.trans (d.mono B.size),ak f d,ZA,ZB,?_,?_,⟨λ_=>⟨_,rfl,jo _ _,B.size⟩,λh=>(by cases h)⟩,R7.keep d⟩
  ·exact λe=>((C e).keep λg f=>d.block g f).mono λg f=>jc f d.size
  intro e;obtain⟨q,D,z,x,E⟩:=aa e;exact⟨q,D,z,x.keep λg f=>d.block g (E g f).2.1,λg f=>⟨(E g f).1,jc (E g f).2.1 d.size,(λe=>by injection e with e;injection e with e;injection e with e;have:=(E g f).2.1;omega),(E g f).2.2.2⟩⟩
 case h2=>
  rintro j K a W ⟨T2,T3,YU,YV,Ye,Wy,VR,VS,VQ,VP,rfl,B,f,ZA,ZB,C,aa,V,R7⟩;refine j5 (o:=_) rfl (λK' l=>?_);rw[if_pos ag];refine fu 55 rfl P bA ?_;have d:=af W (hK P 55);refine l _ _ ⟨T2,ptr W.heap.size,YU,YV,Ye,Wy,VR,VS,VQ,VP,rfl,B.trans (d.mono B.size),ak f d,ZA,ZB,?_,?_,V.keep d,⟨λ_=>⟨_,rfl,jo _ _,B.size⟩,λh=>(by cases h)⟩⟩
  ·exact λe=>((C e).keep λg f=>d.block g f).mono λg f=>jc f d.size
  intro e;obtain⟨q,D,z,x,E⟩:=aa e;exact⟨q,D,z,x.keep λg f=>d.block g (E g f).2.1,λg f=>⟨(E g f).1,jc (E g f).2.1 d.size,(E g f).2.2.1,(λe=>by injection e with e;injection e with e;injection e with e;have:=(E g f).2.1;omega)⟩⟩
 case h0=>
  (refine sR (v:=hZ R) rfl ag (λm r=>bJ jm rfl bb rfl rfl r) ?_;refine L ?_)
  (refine sR (v:=hZ K1) rfl ag (λm r=>by rw[Rc];exact uk rfl _) ?_;refine L ?_)
  (refine sR (v:=hZ K2) rfl ag (λm r=>by rw[P8];exact My rfl _) ?_;refine L ?_)
  (refine sR (v:=hZ K3) rfl ag (λm r=>by rw[QG];exact Ch rfl _) ?_;refine L ?_)
  exact⟨hU,hU,hU,hU,hU,hU,hU,hU,hU,hU,rfl,oi _ _,a1,λh=>absurd h G,λh=>absurd h G,λh=>absurd h G,λh=>absurd h G,⟨λh=>(by cases h),λ_=>rfl⟩,⟨λh=>(by cases h),λ_=>rfl⟩⟩
 case hT=>
  rintro j i b K b2 a W ⟨T2,T3,YU,YV,Ye,Wy,VR,VS,VQ,VP,rfl,B,f,ZA,ZB,C,aa,V,R7⟩
  rcases j with _ |_ |_ |_ |_ |_ |_ |_ |j
  iterate 4 (·simp at b)
  ·obtain rfl:i=8:=by simpa using b.symm
   obtain⟨q,D,z,x,E⟩:=aa Y;refine⟨_,VR,rfl,.inl ⟨by rfl,λm r=>.inl (by go_simp;try with_reducible rfl)⟩,?_⟩;exact⟨T2,T3,VR,YV,Ye,Wy,VR,VS,VQ,VP,rfl,B,f,λ_=>ZA Y,λ_=>ZB Y,λe=>absurd e Y,λ_=>⟨q,D,⟨z.1,λ_=>rfl,(λh=>absurd h Y),(λh=>absurd h Y),(λh=>absurd h Y)⟩,x,E⟩,V,R7⟩
  ·obtain rfl:i=9:=by simpa using b.symm
   obtain⟨q,D,z,x,E⟩:=aa Y;obtain⟨rfl,au,TS,ba,bc⟩:=z;obtain rfl:=au Y;refine⟨_,hZ (aj c q).toArray,rfl,.inl ⟨by rfl,λm r=>.inl (by go_simp;try with_reducible rfl)⟩,?_⟩;exact⟨T2,T3,_,YV,Ye,Wy,_,_,VQ,VP,rfl,B,f,λ_=>ZA Y,λ_=>ZB Y,λe=>absurd e Y,λ_=>⟨q,D,⟨rfl,λ_=>rfl,λ_=>rfl,(λh=>absurd h Y),(λh=>absurd h Y)⟩,x,E⟩,V,R7⟩
  ·obtain rfl:i=10:=by simpa using b.symm
   obtain⟨q,D,z,x,E⟩:=aa Y;obtain⟨rfl,au,TS,ba,bc⟩:=z;obtain rfl:=au Y;refine⟨_,hZ Q,rfl,.inl ⟨by rfl,λm r=>.inl (by go_simp;try with_reducible rfl)⟩,?_⟩;exact⟨T2,T3,_,YV,Ye,Wy,_,VS,_,VP,rfl,B,f,λ_=>ZA Y,λ_=>ZB Y,λe=>absurd e Y,λ_=>⟨q,D,⟨rfl,λ_=>rfl,λ_=>TS Y,λ_=>rfl,(λh=>absurd h Y)⟩,x,E⟩,V,R7⟩
  ·obtain rfl:i=11:=by simpa using b.symm
   obtain⟨q,D,z,x,E⟩:=aa Y;obtain⟨rfl,au,TS,ba,bc⟩:=z;obtain rfl:=au Y;refine⟨_,I N 0,rfl,.inl ⟨by rfl,λm r=>.inl (by go_simp;try with_reducible rfl)⟩,?_⟩;exact⟨T2,T3,_,YV,Ye,Wy,_,VS,VQ,_,rfl,B,f,λ_=>ZA Y,λ_=>ZB Y,λe=>absurd e Y,λ_=>⟨q,D,⟨rfl,λ_=>rfl,λ_=>TS Y,λ_=>ba Y,λ_=>rfl⟩,x,E⟩,V,R7⟩
  simp at b
 case hC=>
  rintro j i b K b2 a W ⟨T2,T3,YU,YV,Ye,Wy,VR,VS,VQ,VP,rfl,B,f,ZA,ZB,C,aa,V,R7⟩;have al:jb w w x1.drew:=X.trans ((aQ x1).mono X.size)
  rcases j with _ |_ |_ |_ |_ |_ |_ |_ |j
  ·obtain rfl:i=1:=by simpa using b.symm
   refine j5 (o:=_) rfl (λK' l=>?_);go_simp;refine(Tx W).mono ?_;rintro e m ⟨rfl,d⟩;exact l _ _ ⟨T2,T3,YU,_,Ye,Wy,VR,VS,VQ,VP,rfl,B.trans (d.mono B.size),ak f d,λ_=>rfl,(λh=>absurd h Y),λe=>absurd e Y,λe=>absurd e Y,V.keep d,R7.keep d⟩
  ·obtain rfl:i=2:=by simpa using b.symm
   refine j5 (o:=_) rfl (λK' l=>?_);go_simp;refine(bq W).mono ?_;rintro e m ⟨rfl,d⟩;exact l _ _ ⟨T2,T3,YU,_,_,Wy,VR,VS,VQ,VP,rfl,B.trans (d.mono B.size),ak f d,λ_=>rfl,λ_=>rfl,λe=>absurd e Y,λe=>absurd e Y,V.keep d,R7.keep d⟩
  ·obtain rfl:i=3:=by simpa using b.symm
   obtain rfl:=ZA Y;obtain rfl:=ZB Y;have d:=af W (hK #[I N 1,I N 4,I N F,I N H,I N 0,I N 1,I N 7,I N p7,I N q7,I N 0] 59);have Pj:=iG W [I N 1,I N 4,I N F,I N H,I N 0,I N 1,I N 7,I N p7,I N q7,I N 0] 59 5 2 W.heap.size (jd _) rfl G;have S:=ah.of_own (D:=(·<(W.alloc (hK #[I N 1,I N 4,I N F,I N H,I N 0,I N 1,I N 7,I N p7,I N q7,I N 0] 59)).heap.size)) Pj (λg f=>(Pj.lt g f).2);refine j5 (o:=_) rfl (λK' l=>?_);go_simp;exact l _ _ ⟨T2,T3,YU,_,_,_,VR,VS,VQ,VP,rfl,B.trans (d.mono B.size),ak f d,λ_=>rfl,λ_=>rfl,λ_=>S,λe=>absurd e Y,V.keep d,R7.keep d⟩
  ·obtain rfl:i=7:=by simpa using b.symm
   obtain⟨pl,nl,z⟩:=(C Y).form;have a3:=C Y;subst z;refine j5 (o:=_) rfl (λK' l=>?_);go_simp;refine(bw W _ (HT.below (al.trans (B.mono al.size))) a3).mono ?_;rintro e m ⟨⟨q,rfl,x⟩,d⟩;exact l _ _ ⟨T2,T3,YU,_,_,_,_,VS,VQ,VP,rfl,B.trans (d.mono B.size),ak f d,λ_=>rfl,λ_=>rfl,λe=>absurd e Y,λ_=>⟨q,_,⟨rfl,(λh=>absurd h Y),(λh=>absurd h Y),(λh=>absurd h Y),(λh=>absurd h Y)⟩,x,λg f=>⟨js B.size f.1,f.2,V.ne f.1,R7.ne f.1⟩⟩,V.keep d,R7.keep d⟩
  iterate 5 (·simp at b)
 rintro a W ⟨T2,T3,YU,YV,Ye,Wy,VR,VS,VQ,VP,rfl,B,f,ZA,ZB,-,aa,V,R7⟩;obtain⟨q,D,⟨rfl,au,TS,ba,bc⟩,x,E⟩:=aa G;obtain rfl:=au G;obtain rfl:=TS G;obtain rfl:=ba G;obtain rfl:=bc G;obtain rfl:=ZA G;obtain rfl:=ZB G;obtain⟨C,rfl,hC,ZO⟩:=V.1 rfl;obtain⟨K,rfl,l,bB⟩:=R7.1 rfl;have a3:C≠K:=by
  rintro rfl;rw[hC]at l;simp at l
 obtain⟨i,b⟩:=J ((aj c q).toArray);have a4:i.size=73:=by rw[b];exact eO c q x.plen x.clen
 have bl:i.all (·.oneCell')=true:=by
  rw[b];obtain⟨z,vp,vb,vw⟩:=q;obtain⟨⟨-,p1,n1,rfl,-⟩,⟨-,p2,n2,rfl,-⟩,⟨us,⟨-,p3,n3,rfl,-⟩,-⟩,⟨vs,⟨-,F,n4,rfl,-⟩,-⟩,-⟩:=x;exact mj _ _ _ _ _ _ _ _ _ _ _ _ _
 have bm:(ja.info? 31).map (·.size)=T i.size:=by rw[a4];exact dZ
 have al:jb w w x1.drew:=X.trans ((aQ x1).mono X.size);have M:OY<x1.drew.heap.size:=(je.1 a1).1;rw[<-b];have Pp:=O (jp W C _ i _ _ hC);have bn:=(jz W C K i (Ne.symm a3)).trans l;have bo:=(jz W C OY i Y).trans f;have d:=jq (al.trans (B.mono al.size)) (js al.size ZO) i;have Pu:=O ((jz (W.setRow C i) K C Q a3).trans Pp);have P8:=O (jp (W.setRow C i) K _ Q _ _ bn);have z:=O ((jz (W.setRow C i) K OY Q Y).trans bo);have O4:=O (jq d (js al.size bB) Q);have bC:((W.setRow C i).setRow K Q).heap.size=W.heap.size:=by simp[lw]
 have bd:A (az (λg=>w.heap.size<=g/\g<((W.setRow C i).setRow K Q).heap.size) ((W.setRow C i).setRow K Q) c q):=O ((x.keep λg f=>(jz _ K g Q (λe=>(E g f).2.2.2 (by rw[e]))).trans (jz W C g i (λe=>(E g f).2.2.1 (by rw[e])))).mono λg f=>⟨js al.size (E g f).1,by rw[bC];exact(E g f).2.1⟩);refine ai rfl (λK' S3=>?_);rw[if_pos ag];refine jl 31 _ _ rfl C i rfl rfl 31 u hC bm (by rw[a5,a4];exact iM) bl ?_;refine S3 _ _ bo λ_=>?_
 clear S3;refine L ?_;refine ai rfl (λK' S3=>?_);rw[if_pos ag];refine jl 55 _ _ rfl K Q rfl rfl 55 P bn bv cd ce ?_;refine S3 _ _ z.out λ_=>?_
 clear S3;refine L ?_;have Yo:=O bm;have Pw:=O bl;have RP:=O a4;have Vs:=O b;have YX:A (OY<C/\OY<K/\C≠K):=O ⟨by omega,by omega,a3⟩;generalize(W.setRow C i).setRow K Q=x2 at Pu P8 z O4 bd⊢;clear hC l ZO bB B f ZA ZB aa V R7 x E a3 b a4 bl bm al a1 M bn bo d bC Pp X Rv bw bq;refine aP ?_;refine jG ?_
 go_upto_region 3 with fail
 refine jn ?_;refine cN (v:=hZ R) ag (bJ jm rfl bb rfl rfl z) ?_;refine L ?_;refine cN (v:=hZ i) ag (bJ jB rfl Yo rfl rfl Pu) ?_;refine L ?_;have b:=cf x2 q (HT.below O4) (bd.mono λg f=>f.2);rw[<-Vs]at b;refine jg rfl λ_ l=>?_
 go_simp;refine(b).mono ?_;rintro e x3 ⟨⟨vm,vt,rfl,M⟩,d⟩;have PM:=Z Pu d;have QG:=Z P8 d;have Sw:=Z z d;have O8:=ac O4 d;have a3:A (az (λg=>w.heap.size<=g/\g<x3.heap.size) x3 c q):=O ((bd.keep λg f=>d.block g f.2).mono λg f=>⟨f.1,jc f.2 d.size⟩);clear d Pu P8 z O4 bd;have a1:=O M;clear b M;refine l _ _ ?_;clear l;refine L ?_;obtain⟨pm,nm,cm,rfl⟩:∃p n k,vm=hH p n k:=by
  obtain⟨-,p,k,e,-⟩:=a1.mem;exact⟨p,_,k,e⟩
 obtain⟨pt,nt,ct,rfl⟩:=iO a1.tree;obtain⟨AX,b⟩:=J ((aB (dx bZ c) (hH pm nm cm) (hH pt nt ct)).toArray);rw[<-b];have cy:A ((ja.info? 54).map (·.size)=T AX.size):=O (by rw[b];exact mC a1.llen);have cz:A (AX.all (·.oneCell')=true):=O (by rw[b];exact Lh _ _ _ _ _ _ _);have cA:A (s.size=AX.size):=O (by rw[b,(ko _ _ _ a1.llen).2.2,bs,br];rfl);have bw:=O b;clear b;iterate 3 refine aO ?_
 have b:=jo x3 (hK s 54);obtain⟨X,f⟩:=J x3.heap.size;rw[<-f]at b;have d:=jq (af x3 (hK s 54)) (jD f.symm) AX;have z:=jp (x3.alloc (hK s 54)) X _ AX _ _ b;refine jg rfl λ_ l=>fu 54 rfl s bg (l _ _ ?_)
 clear l;rw[<-f];refine L ?_;refine jg rfl λ_ l=>jl 54 _ _ rfl X AX rfl rfl 54 s b cy cA cz (l _ _ ?_)
 clear l b f;refine L ?_;obtain⟨x4,M⟩:=J ((x3.alloc (hK s 54)).setRow X AX);rw[<-M]at d z⊢;clear M;have QD:=Z PM d;have ZS:=Z QG d;have UF:=Z Sw d;have Pf:=ac O8 d;have a4:A (az (λg=>w.heap.size<=g/\g<x4.heap.size) x4 c q):=O ((a3.keep λg f=>d.block g f.2).mono λg f=>⟨f.1,jc f.2 d.size⟩);have bd:=O (a1.below d);clear d PM QG Sw O8 a3 a1;have VI:=O z;clear z;refine aO ?_
 go_upto_region 4 with fail
 refine jn ?_;refine cN (v:=hZ s) ag (by rw[bf];exact ua rfl _) ?_;refine L ?_;refine jg rfl λ_ l=>?_
 go_simp;refine(Tx x4).mono ?_;rintro e x5 ⟨rfl,d⟩;have VE:=Z QD d;have a1:=Z ZS d;have Pz:=Z UF d;have Pk:=ac Pf d;have a3:A (az (λg=>w.heap.size<=g/\g<x5.heap.size) x5 c q):=O ((a4.keep λg f=>d.block g f.2).mono λg f=>⟨f.1,jc f.2 d.size⟩);have bl:=O (bd.below d);have UN:=Z VI d;clear d QD ZS UF Pf a4 bd VI;refine l _ _ ?_;clear l;refine L ?_;have d:=af x5 (hK #[I N 1,I N 4,I N F,I N H,I N 0] 59);have Pj:=iG x5 [I N 1,I N 4,I N F,I N H,I N 0] 59 5 1 x5.heap.size (jd _) rfl G;have S:ah (·<(x5.alloc (hK #[I N 1,I N 4,I N F,I N H,I N 0] 59)).heap.size) (x5.alloc (hK #[I N 1,I N 4,I N F,I N H,I N 0] 59)) (hH (T ⟨x5,0,hF⟩) 1 1) 5 1 [I N 1,I N 4,I N F,I N H,I N 0]:=ah.of_own Pj (λg f=>(Pj.lt g f).2);refine jg rfl λ_ l=>?_
 go_simp;refine l _ _ ?_;clear l Pj;refine L ?_;obtain⟨x6,M⟩:=J (x5.alloc (hK #[I N 1,I N 4,I N F,I N H,I N 0] 59));obtain⟨em,f⟩:=J x5.heap.size;rw[<-M]at d S⊢;rw[<-f]at S⊢;clear M f;have a4:=Z VE d;have bd:=Z a1 d;have Rt:=Z Pz d;have Qf:=ac Pk d;have bm:A (az (λg=>w.heap.size<=g/\g<x6.heap.size) x6 c q):=O ((a3.keep λg f=>d.block g f.2).mono λg f=>⟨f.1,jc f.2 d.size⟩);have bn:=O (bl.below d);have VJ:=Z UN d;clear d VE a1 Pz Pk a3 bl UN;have cL:=O S;clear S;refine cN (v:=hZ K1) ag (by rw[Rc];exact uk rfl _) ?_;refine L ?_;refine cN (v:=hZ P) ag (by rw[bh];exact Bi rfl _) ?_;refine L ?_;refine cN (v:=hZ K3) ag (by rw[QG];exact Ch rfl _) ?_;refine L ?_;refine jg rfl λ_ l=>?_
 go_simp;refine(cj x6 _ (HT.below Qf) cL).mono ?_;rintro e x7 ⟨rfl,d⟩;have bl:=Z a4 d;have bo:=Z bd d;have Vm:=Z Rt d;have RX:=ac Qf d;have Zz:A (az (λg=>w.heap.size<=g/\g<x7.heap.size) x7 c q):=O ((bm.keep λg f=>d.block g f.2).mono λg f=>⟨f.1,jc f.2 d.size⟩);have bq:=O (bn.below d);have bB:=Z VJ d;clear d a4 bd Rt Qf bm bn VJ;refine l _ _ ?_;clear l;refine L ?_;iterate 4 refine aO ?_
 have a1:=jo x7 (hK u 31);have U:=af x7 (hK u 31);have a3:=jo (x7.alloc (hK u 31)) (hK P 55);have a4:=af (x7.alloc (hK u 31)) (hK P 55);replace a1:=ak a1 a4;rw[jN]at a3;obtain⟨N1,f⟩:=J x7.heap.size;rw[<-f]at a1 a3;have bd:=(jz ((x7.alloc (hK u 31)).alloc (hK P 55)) N1 (N1+1) u Y).trans a3;have d:=jq (jq (U.trans (a4.mono U.size)) (jD f.symm) u) (show x7.heap.size<=N1+1 by omega) P;refine jg rfl λ_ l=>fu 31 rfl u bk (l _ _ ?_)
 clear l;refine L ?_;refine jg rfl λ_ l=>fu 55 rfl P bA (l _ _ ?_)
 clear l;rw[jN,<-f];refine L ?_;refine jg rfl λ_ l=>jl 31 _ _ rfl N1 u rfl rfl 31 u a1 cu rfl cv (l _ _ ?_)
 clear l;refine L ?_;refine jg rfl λ_ l=>jl 55 _ _ rfl (N1+1) P rfl rfl 55 P bd cw rfl cx (l _ _ ?_)
 clear l a1 a3 bd U a4 f;refine L ?_;generalize(((x7.alloc (hK u 31)).alloc (hK P 55)).setRow N1 u).setRow (N1+1) P=x8 at d⊢;have WS:=Z bl d;have a1:=Z bo d;have a3:=Z Vm d;have Qg:=ac RX d;have a4:A (az (λg=>w.heap.size<=g/\g<x8.heap.size) x8 c q):=O ((Zz.keep λg f=>d.block g f.2).mono λg f=>⟨f.1,jc f.2 d.size⟩);have bd:=O (bq.below d);have bm:=Z bB d;clear d bl bo Vm RX Zz bq bB;refine aO ?_
 go_upto_region 5 with fail
 refine jn ?_;refine cN (v:=hZ s) ag (by rw[bf];exact ua rfl _) ?_;refine L ?_;refine jg rfl λ_ l=>?_
 go_simp;refine(RF x8).mono ?_;rintro e x9 ⟨⟨un,rfl⟩,d⟩;have RR:=Z WS d;have bl:=Z a1 d;have bn:=Z a3 d;have U:=ac Qg d;have bo:A (az (λg=>w.heap.size<=g/\g<x9.heap.size) x9 c q):=O ((a4.keep λg f=>d.block g f.2).mono λg f=>⟨f.1,jc f.2 d.size⟩);have bq:=O (bd.below d);have bB:=Z bm d;clear d WS a1 a3 Qg a4 bd bm;refine l _ _ ?_;clear l;refine L ?_;iterate 5 refine aO ?_
 go_upto_region 6 with fail
 refine jn ?_;refine cN (v:=hZ s) ag (by rw[bf];exact ua rfl _) ?_;refine L ?_;refine cN (v:=hZ u) ag (by rw[a5];exact C3 rfl _) ?_;refine L ?_;refine jg rfl λ_ l=>?_
 go_simp;refine(Wm x9 (HT.below U)).mono ?_;rintro e VG ⟨rfl,d⟩;have a3:=Z RR d;have a4:=Z bl d;have bd:=Z bn d;have Y4:=ac U d;have bm:A (az (λg=>w.heap.size<=g/\g<VG.heap.size) VG c q):=O ((bo.keep λg f=>d.block g f.2).mono λg f=>⟨f.1,jc f.2 d.size⟩);have bC:=O (bq.below d);have bI:=Z bB d;clear d RR bl bn U bo bq bB;refine l _ _ ?_;clear l;refine L ?_;iterate 3 refine aO ?_
 have b:=jo VG (hK s 54);obtain⟨X6,f⟩:=J VG.heap.size;rw[<-f]at b;have d:=jq (af VG (hK s 54)) (jD f.symm) s;have z:=jp (VG.alloc (hK s 54)) X6 _ s _ _ b;refine jg rfl λ_ l=>fu 54 rfl s bg (l _ _ ?_)
 clear l;rw[<-f];refine L ?_;refine jg rfl λ_ l=>jl 54 _ _ rfl X6 s rfl rfl 54 s b cr rfl cs (l _ _ ?_)
 clear l b f;refine L ?_;obtain⟨Sd,M⟩:=J ((VG.alloc (hK s 54)).setRow X6 s);rw[<-M]at d z⊢;clear M;have U:=Z a3 d;have bl:=Z a4 d;have bn:=Z bd d;have bo:=ac Y4 d;have a1:A (az (λg=>w.heap.size<=g/\g<Sd.heap.size) Sd c q):=O ((bm.keep λg f=>d.block g f.2).mono λg f=>⟨f.1,jc f.2 d.size⟩);have bq:=O (bC.below d);have bB:=Z bI d;clear d a3 a4 bd Y4 bm bC bI;have ep:=O z;clear z;refine aO ?_
 go_upto_region 7 with fail
 refine jn ?_;refine cN (v:=hZ i) ag (bJ jB rfl Yo rfl rfl U) ?_;refine L ?_;have a3:=cp Sd q (a1.mono λg f=>f.2);rw[<-Vs]at a3;refine jg rfl λ_ l=>?_
 go_simp;refine(a3).mono ?_;rintro e U8 ⟨⟨ve,rfl,T0⟩,d⟩;have bd:=Z U d;have bm:=Z bl d;have bC:=Z bn d;have a4:=ac bo d;have bI:A (az (λg=>w.heap.size<=g/\g<U8.heap.size) U8 c q):=O ((a1.keep λg f=>d.block g f.2).mono λg f=>⟨f.1,jc f.2 d.size⟩);have bK:=O (bq.below d);have bM:=Z bB d;clear d U bl bn bo a1 bq bB;have U:=O T0;clear a3 T0;obtain⟨pb,nb,cb,rfl⟩:∃p n k,ve=hH p n k:=by
  obtain⟨p,k,e⟩:=aL U;exact⟨p,_,k,e⟩
 have a1:A (ah (·<U8.heap.size) U8 (hH pb nb cb) 1 t.length (t.map v8)):=O (ah.of_own U (λg f=>(U.lt g f).2));clear U;refine l _ _ ?_;clear l;refine L ?_;iterate 5 refine aO ?_
 go_upto_region 8 with fail
 refine jn ?_;refine aO ?_;have Po:=a4.size;refine jg rfl λ_ l=>?_
 go_simp;refine(cq U8 pb nb cb a1).mono ?_;rintro e R6 ⟨⟨U,rfl,a3⟩,d⟩;have bl:=Z bd d;have bn:=Z bm d;have bo:=Z bC d;have bq:=ac a4 d;have bB:A (az (λg=>w.heap.size<=g/\g<R6.heap.size) R6 c q):=O ((bI.keep λg f=>d.block g f.2).mono λg f=>⟨f.1,jc f.2 d.size⟩);have bN:=O (bK.below d);have bO:=Z bM d;have bT:A (ah (·<R6.heap.size) R6 (hH pb nb cb) 1 t.length (t.map v8)):=O ((a1.keep λg f=>d.block g f).mono λg f=>jc f d.size);clear d bd bm bC a4 bI bK bM a1;have a1:A (az (λg=>w.heap.size<=g/\g<R6.heap.size) R6 c U):=O (a3.mono λg f=>⟨js Po f.1,f.2⟩);clear a3 Po;refine l _ _ ?_;clear l;refine L ?_;obtain⟨AD,Rp⟩:=J ((aj c U).toArray);rw[<-Rp];have bC:A ((ja.info? 31).map (·.size)=T AD.size):=O (by rw[Rp,eO c U a1.plen a1.clen];exact dZ);have cX:A (u.size=AD.size):=O (by rw[Rp,eO c U a1.plen a1.clen,a5];exact iM);have c5:A (AD.all (·.oneCell')=true):=O (by rw[Rp];exact mg a1);have SY:=O Rp;clear Rp;iterate 3 refine aO ?_
 have b:=jo R6 (hK u 31);obtain⟨PY,f⟩:=J R6.heap.size;rw[<-f]at b;have d:=jq (af R6 (hK u 31)) (jD f.symm) AD;have z:=jp (R6.alloc (hK u 31)) PY _ AD _ _ b;refine jg rfl λ_ l=>fu 31 rfl u bk (l _ _ ?_)
 clear l;rw[<-f];refine L ?_;refine jg rfl λ_ l=>jl 31 _ _ rfl PY AD rfl rfl 31 u b bC cX c5 (l _ _ ?_)
 clear l b f;refine L ?_;obtain⟨Sn,M⟩:=J ((R6.alloc (hK u 31)).setRow PY AD);rw[<-M]at d z⊢;clear M;have a3:=Z bl d;have a4:=Z bn d;have b:=Z bo d;have bd:=ac bq d;have bm:A (az (λg=>w.heap.size<=g/\g<Sn.heap.size) Sn c q):=O ((bB.keep λg f=>d.block g f.2).mono λg f=>⟨f.1,jc f.2 d.size⟩);have bI:=O (bN.below d);have bK:=Z bO d;have bM:A (ah (·<Sn.heap.size) Sn (hH pb nb cb) 1 t.length (t.map v8)):=O ((bT.keep λg f=>d.block g f).mono λg f=>jc f d.size);have b0:A (az (λg=>w.heap.size<=g/\g<Sn.heap.size) Sn c U):=O ((a1.keep λg f=>d.block g f.2).mono λg f=>⟨f.1,jc f.2 d.size⟩);clear d bl bn bo bq bB bN bO bT a1;have a1:=O z;clear z;refine aO ?_
 go_upto_region 9 with fail
 have d:=aQ Sn;refine jI ?_;refine aY (λm=>m.heap[OY]?=T (hK R 54 (0,0))) (.take 0 (.one 1 (.one 2 (.one 3 (.take 4 (.take 5 (.take 6 (.take 7 (.take 8 .done))))))))) ae ae ae G (λ_ _ _ _ h=>h) b ?_;obtain⟨Tb,M⟩:=J Sn.drew;rw[<-M]at d⊢;clear M;have z:=Z a3 d;have bl:=Z a4 d;have bn:=Z b d;have bo:=ac bd d;have bq:A (az (λg=>w.heap.size<=g/\g<Tb.heap.size) Tb c q):=O ((bm.keep λg f=>d.block g f.2).mono λg f=>⟨f.1,jc f.2 d.size⟩);have bB:=O (bI.below d);have bN:=Z bK d;have bO:A (ah (·<Tb.heap.size) Tb (hH pb nb cb) 1 t.length (t.map v8)):=O ((bM.keep λg f=>d.block g f).mono λg f=>jc f d.size);have bT:A (az (λg=>w.heap.size<=g/\g<Tb.heap.size) Tb c U):=O ((b0.keep λg f=>d.block g f.2).mono λg f=>⟨f.1,jc f.2 d.size⟩);have b1:=Z a1 d;clear d a3 a4 b bd bm bI bK bM b0 a1
 (refine ay (v:=hZ R) rfl ag (λm r=>bJ jm rfl bb rfl rfl r) ?_;refine L ?_)
 refine ai rfl (λK' l=>?_);go_simp;refine(Tx Tb).mono ?_;rintro e TI ⟨rfl,d⟩;have a3:=Z z d;have a4:=Z bl d;have b:=Z bn d;have bd:=ac bo d;have bm:A (az (λg=>w.heap.size<=g/\g<TI.heap.size) TI c q):=O ((bq.keep λg f=>d.block g f.2).mono λg f=>⟨f.1,jc f.2 d.size⟩);have bI:=O (bB.below d);have bK:=Z bN d;have bM:A (ah (·<TI.heap.size) TI (hH pb nb cb) 1 t.length (t.map v8)):=O ((bO.keep λg f=>d.block g f).mono λg f=>jc f d.size);have b0:A (az (λg=>w.heap.size<=g/\g<TI.heap.size) TI c U):=O ((bT.keep λg f=>d.block g f.2).mono λg f=>⟨f.1,jc f.2 d.size⟩);have b2:=Z b1 d;clear d z bl bn bo bq bB bN bO bT b1;refine l _ _ b.out λ_=>?_
 clear l;refine L ?_;have d:=af TI (hK #[I N 1,I N 4,I N F,I N H,I N 0] 59);have Pj:=iG TI [I N 1,I N 4,I N F,I N H,I N 0] 59 5 1 TI.heap.size (jd _) rfl G;have S:ah (·<(TI.alloc (hK #[I N 1,I N 4,I N F,I N H,I N 0] 59)).heap.size) (TI.alloc (hK #[I N 1,I N 4,I N F,I N H,I N 0] 59)) (hH (T ⟨TI,0,hF⟩) 1 1) 5 1 [I N 1,I N 4,I N F,I N H,I N 0]:=ah.of_own Pj (λg f=>(Pj.lt g f).2);refine ai rfl (λK' l=>?_);go_simp;refine l _ _ (ak b d) λ_=>?_
 clear l Pj;refine L ?_;obtain⟨a1,M⟩:=J (TI.alloc (hK #[I N 1,I N 4,I N F,I N H,I N 0] 59));obtain⟨eq,f⟩:=J TI.heap.size;rw[<-M]at d S⊢;rw[<-f]at S⊢;clear M f;have bl:=Z a3 d;have bn:=Z a4 d;have bo:=Z b d;have bq:=ac bd d;have bB:A (az (λg=>w.heap.size<=g/\g<a1.heap.size) a1 c q):=O ((bm.keep λg f=>d.block g f.2).mono λg f=>⟨f.1,jc f.2 d.size⟩);have bN:=O (bI.below d);have bO:=Z bK d;have bT:A (ah (·<a1.heap.size) a1 (hH pb nb cb) 1 t.length (t.map v8)):=O ((bM.keep λg f=>d.block g f).mono λg f=>jc f d.size);have b1:A (az (λg=>w.heap.size<=g/\g<a1.heap.size) a1 c U):=O ((b0.keep λg f=>d.block g f.2).mono λg f=>⟨f.1,jc f.2 d.size⟩);have b3:=Z b2 d;clear d a3 a4 b bd bm bI bK bM b0 b2;have c6:=O S;clear S;refine ai rfl (λK' l=>?_);go_simp;refine(ck a1 _ c6.out).mono ?_;rintro e Wx ⟨⟨p9,k9,rfl⟩,d⟩;have bm:=Z bl d;have bI:=Z bn d;have b:=Z bo d;have z:=ac bq d;have bK:A (az (λg=>w.heap.size<=g/\g<Wx.heap.size) Wx c q):=O ((bB.keep λg f=>d.block g f.2).mono λg f=>⟨f.1,jc f.2 d.size⟩);have bM:=O (bN.below d);have b0:=Z bO d;have b2:A (ah (·<Wx.heap.size) Wx (hH pb nb cb) 1 t.length (t.map v8)):=O ((bT.keep λg f=>d.block g f).mono λg f=>jc f d.size);have b4:A (az (λg=>w.heap.size<=g/\g<Wx.heap.size) Wx c U):=O ((b1.keep λg f=>d.block g f.2).mono λg f=>⟨f.1,jc f.2 d.size⟩);have b5:=Z b3 d;clear d bl bn bo bq bB bN bO bT b1 b3;refine l _ _ b.out λ_=>?_
 clear l;refine L ?_;iterate 5 refine aP ?_
 refine jG ?_
 go_upto_region 10 with fail
 refine jn ?_;refine cN (v:=hZ K1) ag (by rw[Rc];exact uk rfl _) ?_;refine L ?_;refine jg rfl λ_ l=>?_
 go_simp;refine(cn Wx (HT.below z)).mono ?_;rintro e Yc ⟨vr,rfl,bn,d⟩;have a4:=Z bm d;have bB:=Z bI d;have bN:=Z b d;have bO:=ac z d;have a3:A (az (λg=>w.heap.size<=g/\g<Yc.heap.size) Yc c q):=O ((bK.keep λg f=>d.block g f.2).mono λg f=>⟨f.1,jc f.2 d.size⟩);have bd:=O (bM.below d);have bl:=Z b0 d;have bT:A (ah (·<Yc.heap.size) Yc (hH pb nb cb) 1 t.length (t.map v8)):=O ((b2.keep λg f=>d.block g f).mono λg f=>jc f d.size);have b1:A (az (λg=>w.heap.size<=g/\g<Yc.heap.size) Yc c U):=O ((b4.keep λg f=>d.block g f.2).mono λg f=>⟨f.1,jc f.2 d.size⟩);have b3:=Z b5 d;clear d bm bI b z bK bM b0 b2 b4 b5;obtain⟨gl,cl,LC,rfl,bm,bo,b,z⟩:=Eg bn G;have bI:=O b;have c7:A (∀j ad,((bQ (kb 1#8) 9).map v8)[j]?=T ad->LC[288+j]?=T ad):=O (λj ad hj=>z _ _ (Dq (kb 1#8) (iQ _) 10 9 j G ad hj));clear bn bm bo b z;refine l _ _ ?_;clear l;refine L ?_;refine aO ?_
 go_upto_region 11 with fail
 obtain⟨gm,om,er,c8,a2⟩:=IF HC bd;injection c8 with c9 db dd
 subst c9 db dd;obtain⟨ev,ew,z⟩:=G1 (n:=1) (by rw[HC];exact I2) a3;obtain⟨e0,e1,ad⟩:=On (n:=1) (by rw[HC];exact Hu) a3;rw[<-Vs]at z ad;have dn:=O z;have dr:=O ad;obtain⟨x0,bm,bn⟩:=MD (vm:=hH (T ⟨gm,om,hF⟩) 2 cm) (vt:=hH pt nt ct) bd.llen LW (Kj HC);rw[<-bw]at x0 bm bn;have Ua:=O x0;have QO:=O bm;have bK:=O bn;have bM:=bd.llen;have j:A (∀m:hQ,m.heap[X]?=T (hK AX 54 (0,0))->m.rangeAt X 2 ((idC c).map v8)):=O (λm r=>Nt bM GA bw r);have bo:=KM c;have SS:=AV (idC c) (pg c);have bq:∀(W:hQ),fV W->az (·<W.heap.size) W c q->jh ja 11 #[hZ i] W λe w'=>e=jf (hZ ((idC c).map v8).toArray)/\jb W W w':=λW ht x=>by
  rw[Vs];exact sd c q W x (by rw[HC];exact lJ.encOk) ht.s.dig
 obtain⟨DC,b0⟩:=J ((idC c).map v8);replace j:=j.out;rw[<-b0]at j bo SS bq;have ds:=O j;have dv:=O bo;have ea:=O SS;have eb:=O bq;have b:A (Yc.heap[X]?=T (hK AX 54 (0,0))/\Yc.heap[C]?=T (hK i 31 (0,0))/\Yc.cell? ⟨gm,om+3,hF⟩=T (I N 7)):=O ⟨bl,a4,a2⟩;clear a2 z ad x0 bm bn bM j bo SS bq b0;have d:=aQ Yc;refine jI ?_;refine aY (λm=>m.heap[X]?=T (hK AX 54 (0,0))/\m.heap[C]?=T (hK i 31 (0,0))/\m.cell? ⟨gm,om+3,hF⟩=T (I N 7)) (.take 0 (.take 1 (.take 2 (.take 3 (.take 4 (.take 5 (.take 6 (.take 7 (.take 8 (.take 9 (.take 10 (.take 11 (.take 12 (.take 13 (.take 14 (.take 15 (.take 16 (.take 17 (.take 18 (.take 19 (.take 20 (.take 21 (.take 22 (.take 23 (.take 24 (.take 25 (.take 26 (.take 27 (.take 28 (.take 29 (.take 30 (.take 31 (.take 32 (.take 33 (.one 34 (.take 35 (.take 36 (.take 37 (.take 38 (.take 39 (.take 40 (.take 41 (.take 42 (.take 43 (.take 44 (.take 45 (.take 46 (.take 47 (.take 48 (.take 49 (.take 50 (.take 51 (.take 52 (.take 53 (.take 54 (.take 55 (.take 56 (.take 57 (.take 58 (.take 59 (.take 60 (.take 61 .done)))))))))))))))))))))))))))))))))))))))))))))))))))))))))))))) ae ae ae G (λ_ _ _ _ h=>h) b ?_;obtain⟨a2,M⟩:=J Yc.drew;rw[<-M]at d⊢;clear M;have bq:=Z a4 d;have bM:=Z bB d;have b0:=Z bN d;have bm:=ac bO d;have bn:A (az (λg=>w.heap.size<=g/\g<a2.heap.size) a2 c q):=O ((a3.keep λg f=>d.block g f.2).mono λg f=>⟨f.1,jc f.2 d.size⟩);have b2:=Z bl d;have b4:A (ah (·<a2.heap.size) a2 (hH pb nb cb) 1 t.length (t.map v8)):=O ((bT.keep λg f=>d.block g f).mono λg f=>jc f d.size);have b5:A (az (λg=>w.heap.size<=g/\g<a2.heap.size) a2 c U):=O ((b1.keep λg f=>d.block g f.2).mono λg f=>⟨f.1,jc f.2 d.size⟩);have b6:=Z b3 d;have b7:=Z bI d;have z:=O (And.intro (ak b.1 d) (And.intro (ak b.2.1 d) ((bz (d.block gm (eN b.2.2))).trans b.2.2)));clear d a4 bB bN bO a3 bl bT b1 b3 bI b;iterate 8 refine aP ?_
 (refine ay (v:=?_) rfl ag (λm r=>?_) ?_;rotate_left;(have b:=cell_of r.1 QO;go_simp;with_reducible rfl);refine L ?_)
 iterate 4 refine aP ?_
 (refine ay (v:=?_) rfl ag (λm r=>?_) ?_;rotate_left;(have b:=cell_of r.1 Ua;go_simp;with_reducible rfl);refine L ?_)
 iterate 4 refine aP ?_
 (refine ay (v:=?_) rfl ag (λm r=>?_) ?_;rotate_left;(have b:=cell_of r.1 bK;go_simp;with_reducible rfl);refine L ?_)
 iterate 5 refine aP ?_
 (refine ay (v:=?_) rfl ag (λm r=>?_) ?_;rotate_left;(have b:=cell_of r.1 bK;go_simp;with_reducible rfl);refine L ?_)
 iterate 2 refine aP ?_
 (refine ay (v:=?_) rfl ag (λm r=>?_) ?_;rotate_left;(have b:=r.2.2;go_simp;with_reducible rfl);refine L ?_)
 iterate 4 refine aP ?_
 (refine ay (v:=hZ DC.toArray) rfl ag (λm r=>m6 qj rfl dv rfl rfl (ds m r.1)) ?_;refine L ?_)
 (refine ay (v:=hZ i) rfl ag (λm r=>bJ jB rfl Yo rfl rfl r.2.1) ?_;refine L ?_)
 refine ai rfl (λK' l=>?_);go_simp;refine(eb a2 (HT.below bm) (bn.mono λg f=>f.2)).mono ?_;rintro e j ⟨rfl,d⟩;have a3:=Z bq d;have a4:=Z bM d;have bB:=Z b0 d;have bI:=ac bm d;have bN:A (az (λg=>w.heap.size<=g/\g<j.heap.size) j c q):=O ((bn.keep λg f=>d.block g f.2).mono λg f=>⟨f.1,jc f.2 d.size⟩);have bO:=Z b2 d;have bT:A (ah (·<j.heap.size) j (hH pb nb cb) 1 t.length (t.map v8)):=O ((b4.keep λg f=>d.block g f).mono λg f=>jc f d.size);have b1:A (az (λg=>w.heap.size<=g/\g<j.heap.size) j c U):=O ((b5.keep λg f=>d.block g f.2).mono λg f=>⟨f.1,jc f.2 d.size⟩);have bl:=Z b6 d;have bo:=Z b7 d;have ad:=O (And.intro (ak z.1 d) (And.intro (ak z.2.1 d) ((bz (d.block gm (eN z.2.2))).trans z.2.2)));clear d bq bM b0 bm bn b2 b4 b5 b6 b7 z;refine l _ _ ad.out λ_=>?_
 clear l;refine L ?_
 (refine ay (v:=?_) rfl ag (λm r=>?_) ?_;rotate_left;(have z:=ea.out;go_simp;with_reducible rfl);refine L ?_)
 iterate 3 refine aP ?_
 (refine ay (v:=?_) rfl ag (λm r=>?_) ?_;rotate_left;(have b:=cell_of r.2.1 dn;go_simp;with_reducible rfl);refine L ?_)
 iterate 5 refine aP ?_
 (refine ay (v:=?_) rfl ag (λm r=>?_) ?_;rotate_left;(have b:=cell_of r.2.1 dr;go_simp;with_reducible rfl);refine L ?_)
 iterate 16 refine aP ?_
 refine jG ?_
 go_upto_region 12 with fail
 have bm:∀(W:hQ),az (·<W.heap.size) W c q->az (·<W.heap.size) W c U->jh ja 10 #[hZ i,hZ AD] W λe w'=>e=jf (.bool true)/\jb W W w':=λW h1 h2=>by
  rw[Vs,SY];have S:=lJ.encOk;rw[<-HC]at S;have h:=BX c c q U W h1 h2 S S.lens.1 S.lens.2.1 S.lens.2.2.1 S.lens.2.2.2;rw[ts rfl]at h;exact h
 have PP:=O bm;have bn:∀(W:hQ),jh ja 7 #[hZ u] W λe w'=>e=jf (I N 220)/\jb W W w':=λW=>by
  rw[a5];have h:=B6 dG eX W tA G G G G (λb z=>by cases z) (λb z=>by cases z);rw[EH]at h;exact h
 have ec:=O bn;obtain⟨RL,b⟩:=J (((bQ (kb 1#8) 9).map v8).toArray);have ed:A ((ja.info? 55).map (·.size)=T ((bQ (kb 1#8) 9).map v8).length):=O (by rw[jr,dY _ (iQ _)];kernel_rfl);have bq:∀(W:hQ),fL W->jh ja 17 #[hZ P,hZ RL] W λe w'=>e=jf (hZ Q)/\jb W W w':=λW ht=>by
  rw[bu,bh,b,GI];exact Db dh (bQ (kb 1#8) 9) du (dY _ (iQ _) _) W ht
 have eg:=O bq;have ej:=O b;have ek:A (∀z,(Op.equalIn 10000 55 (hZ Q) (hZ Q)).run ja z=.ok true z):=O (λz=>by rw[bu];exact H5 _ yo z);have ad:A (j.heap[C]?=T (hK i 31 (0,0))/\j.heap[PY]?=T (hK AD 31 (0,0))/\j.heap[K]?=T (hK Q 55 (0,0))/\j.heap[gl]?=T (hK LC 55 (0,0))):=O ⟨a3,bl,a4,bo⟩;clear bm bn bq b;have d:=aQ j;refine jI ?_;refine aY (λm=>m.heap[C]?=T (hK i 31 (0,0))/\m.heap[PY]?=T (hK AD 31 (0,0))/\m.heap[K]?=T (hK Q 55 (0,0))/\m.heap[gl]?=T (hK LC 55 (0,0))) (.take 0 (.take 1 (.take 2 (.take 3 (.take 4 (.take 5 (.take 6 (.take 7 (.take 8 (.take 9 (.take 10 (.take 11 (.one 12 (.take 13 (.take 14 (.take 15 (.take 16 (.take 17 (.take 18 (.take 19 (.take 20 (.take 21 (.take 22 (.take 23 (.take 24 (.one 25 (.take 26 (.take 27 (.take 28 (.take 29 (.take 30 (.take 31 (.take 32 (.take 33 (.take 34 (.take 35 (.take 36 (.take 37 (.take 38 (.one 39 (.take 40 (.take 41 (.take 42 .done))))))))))))))))))))))))))))))))))))))))))) ae ae ae G (λ_ _ _ _ h=>h) ad ?_;obtain⟨b,M⟩:=J j.drew;rw[<-M]at d⊢;clear M;have bq:=Z a3 d;have bM:=Z a4 d;have b0:=Z bB d;have b2:=ac bI d;have bm:A (az (λg=>w.heap.size<=g/\g<b.heap.size) b c q):=O ((bN.keep λg f=>d.block g f.2).mono λg f=>⟨f.1,jc f.2 d.size⟩);have b3:=Z bO d;have b4:A (ah (·<b.heap.size) b (hH pb nb cb) 1 t.length (t.map v8)):=O ((bT.keep λg f=>d.block g f).mono λg f=>jc f d.size);have bn:A (az (λg=>w.heap.size<=g/\g<b.heap.size) b c U):=O ((b1.keep λg f=>d.block g f.2).mono λg f=>⟨f.1,jc f.2 d.size⟩);have b5:=Z bl d;have b6:=Z bo d;have M:=O (And.intro (ak ad.1 d) (And.intro (ak ad.2.1 d) (And.intro (ak ad.2.2.1 d) (ak ad.2.2.2 d))));clear d a3 a4 bB bI bN bO bT b1 bl bo ad;iterate 10 refine aP ?_
 (refine ay (v:=hZ i) rfl ag (λm r=>bJ jB rfl Yo rfl rfl r.1) ?_;refine L ?_)
 (refine ay (v:=hZ AD) rfl ag (λm r=>bJ jB rfl bC rfl rfl r.2.1) ?_;refine L ?_)
 refine ai rfl (λK' l=>?_);go_simp;refine(PP b (bm.mono λg f=>f.2) (bn.mono λg f=>f.2)).mono ?_;rintro e z ⟨rfl,d⟩;have bo:=Z bq d;have bB:=Z bM d;have bI:=Z b0 d;have bN:=ac b2 d;have bO:A (az (λg=>w.heap.size<=g/\g<z.heap.size) z c q):=O ((bm.keep λg f=>d.block g f.2).mono λg f=>⟨f.1,jc f.2 d.size⟩);have bT:=Z b3 d;have b1:A (ah (·<z.heap.size) z (hH pb nb cb) 1 t.length (t.map v8)):=O ((b4.keep λg f=>d.block g f).mono λg f=>jc f d.size);have b7:A (az (λg=>w.heap.size<=g/\g<z.heap.size) z c U):=O ((bn.keep λg f=>d.block g f.2).mono λg f=>⟨f.1,jc f.2 d.size⟩);have b8:=Z b5 d;have b9:=Z b6 d;have a3:=O (And.intro (ak M.1 d) (And.intro (ak M.2.1 d) (And.intro (ak M.2.2.1 d) (ak M.2.2.2 d))));clear d bq bM b0 b2 bm b3 b4 bn b5 b6 M;refine l _ _ a3.out λ_=>?_
 clear l;refine L ?_;iterate 11 refine aP ?_
 (refine ay (v:=hZ u) rfl ag (λm r=>by rw[a5];exact C3 rfl _) ?_;refine L ?_)
 refine ai rfl (λK' l=>?_);go_simp;refine(ec z).mono ?_;rintro e M ⟨rfl,d⟩;have bm:=Z bo d;have bn:=Z bB d;have bq:=Z bI d;have bl:=ac bN d;have bM:A (az (λg=>w.heap.size<=g/\g<M.heap.size) M c q):=O ((bO.keep λg f=>d.block g f.2).mono λg f=>⟨f.1,jc f.2 d.size⟩);have b0:=Z bT d;have b2:A (ah (·<M.heap.size) M (hH pb nb cb) 1 t.length (t.map v8)):=O ((b1.keep λg f=>d.block g f).mono λg f=>jc f d.size);have b3:A (az (λg=>w.heap.size<=g/\g<M.heap.size) M c U):=O ((b7.keep λg f=>d.block g f.2).mono λg f=>⟨f.1,jc f.2 d.size⟩);have b4:=Z b8 d;have b5:=Z b9 d;have a4:=O (And.intro (ak a3.1 d) (And.intro (ak a3.2.1 d) (And.intro (ak a3.2.2.1 d) (ak a3.2.2.2 d))));clear d bo bB bI bN bO bT b1 b7 b8 b9 a3;refine l _ _ a4.out λ_=>?_
 clear l;refine L ?_;iterate 8 refine aP ?_
 (refine ay (v:=hZ Q) rfl ag (λm r=>bJ qi rfl bv rfl rfl r.2.2.1) ?_;refine L ?_)
 (refine ay (v:=hZ P) rfl ag (λm r=>by rw[bh];exact Bi rfl _) ?_;refine L ?_)
 iterate 2 refine aP ?_
 (refine ay (v:=hZ RL) rfl ag (λm r=>by rw[ej];exact m6 qi rfl ed rfl rfl (pP (o:=288) r.2.2.2 c7)) ?_;refine L ?_)
 refine ai rfl (λK' l=>?_);go_simp;refine(eg M (HT.below bl).s).mono ?_;rintro e a3 ⟨rfl,d⟩;have bB:=Z bm d;have bI:=Z bn d;have bN:=Z bq d;have bo:=ac bl d;have bO:A (az (λg=>w.heap.size<=g/\g<a3.heap.size) a3 c q):=O ((bM.keep λg f=>d.block g f.2).mono λg f=>⟨f.1,jc f.2 d.size⟩);have bT:=Z b0 d;have b1:A (ah (·<a3.heap.size) a3 (hH pb nb cb) 1 t.length (t.map v8)):=O ((b2.keep λg f=>d.block g f).mono λg f=>jc f d.size);have b6:A (az (λg=>w.heap.size<=g/\g<a3.heap.size) a3 c U):=O ((b3.keep λg f=>d.block g f.2).mono λg f=>⟨f.1,jc f.2 d.size⟩);have b7:=Z b4 d;have b8:=Z b5 d;have g:=O (And.intro (ak a4.1 d) (And.intro (ak a4.2.1 d) (And.intro (ak a4.2.2.1 d) (ak a4.2.2.2 d))));clear d bm bn bq bl bM b0 b2 b3 b4 b5 a4;refine l _ _ g.out λ_=>?_
 clear l;refine L ?_
 (refine ay (v:=?_) rfl ag (λm r=>?_) ?_;rotate_left;(have m:=ek.out;go_simp;with_reducible rfl);refine L ?_)
 iterate 2 refine aP ?_
 refine jG ?_
 go_wp2_with fail
 go_ret;exact⟨rfl,bo⟩
end Go.Proofs.YtpfafeammikibaaGreatDoor
