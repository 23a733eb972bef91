/- Contracts of functions that the law reaches, part 6 of 7; no condition. -/
import Derived.Test.YtdjkajodkjfjlaaGreatDoorZJ5
namespace Go.Proofs.YtdjkajodkjfjlaaGreatDoor
set_option maxHeartbeats 64000000
set_option maxRecDepth 100000
set_option linter.unusedVariables false
set_option linter.unusedSimpArgs false
set_option linter.unusedSectionVars false
open Go.RowKit
open Go.Proofs.Tryz
open Go.Value renaming int->I
open Go.IntKind renaming i64->N
open _root_ renaming rfl->T,Nat->jf,Int->jh,List->ji,Array->ju,if_pos->jv,Option->jB,if_neg->jG,absurd->jZ
open Go.Value renaming slice->A,string->je,agg->jk,pointer->jC,tuple->j8
open _root_.Option renaming none->ja,some->jb,bind_some->jT,map_some->qe
open Go.RowKit renaming Hid->jc,Below->jm
open Go.Obj renaming cells->jd
open Go renaming World->jg,Value->jj,Calls->jr,setRow_other->jy,wp_store_row->jE,wpList_plain->jJ,TypeId->jM,Addr->jN,wp_region_noPanic->jO,wpList_load_row->jQ,Exit->jV,bodyPost_ret_by->jW,wp_region_lit->j0,Ending->j3,Code->j4,setRow_heap->j6,fenced_wide->j7,execOp->kl,stepR_block->km,Program->lm,results_cell_row->lo,PanicEntry->lr,Operand->nn,below_setRow->nz,KeepsFrom->oi,bodyPost_ret->ol,wp_store_mid->qf,wpS_region->qg,leaves_cons->qs,callsIn_wide->qt
open Go.Proofs.Tryz renaming prog->jl
open _root_.Nat renaming le_refl->jn,lt_of_lt_of_le->jz,le_trans->jA,le_of_eq->jR,zero_le->jX,sub_self->qk
open _root_.Bool renaming false->jo,true->jp
open Go.Ending renaming returned->jq
open _root_.Array renaming getElem?_eq_some_iff->js,ext'->ms,toList_setIfInBounds->mz,replicate->qb
open Go.World renaming alloc_heap_new->jt,size_alloc->jF,putObj_heap_other->m0,setRow->p6,putObj->qn,ownsRow_nil->qw,putObj_heap_same->qE
open _root_.List renaming length_map->jw,size_toArray->jD,getElem?_eq_getElem->jY,take_of_length_le->j5,length_take->kn,getD->kw,map_append->lw,getElem?_map->mb,set_append_right->mF,length_append->mT,cons_append->oj,map_nil->ow,mem_of_getElem?->o4,set->pa,getElem?_eq_some_iff->qa,set_cons_succ->qd,map_toArray->qi,eq_nil_of_length_eq_zero->qj,replicate->qm,append_assoc->qu,take_succ_eq_append_getElem->qy,getElem?_toArray->qz,take_add_one->qA,length_cons->qB,nodup_cons->qF
open Go.Value renaming oneCell'->jH,int->jS,slice->jU
open Go.Proofs.Tryz renaming underlying64->jI,underlying63->jP,underlying128->j1,underlying23->n0,ntmps79->oo,ntmps142->qh,underlying29->qo
open Go.Proofs renaming intOf->jK
open Go.NoPanic renaming normal->jL
open Go.RowKit.Below renaming refl->j9,heap_alloc->qc
open _root_.Int renaming eq_ofNat_of_zero_le->pz,toNat_natCast->qx
open Go.IntKind renaming i64->ql,wrap_i64->qv
open _root_.BitVec renaming ofNat->qC,toNat_ofNat->qD
variable{f:Act}{H:CQ}{o:Oper}{y:Type}{x:Val}{u:aD}{C:aI}{g:af}{K t:jM}{e:jV->Act->jg->Prop}{M N0 R b h m:jf}{D:jf->Prop}{a i w w':jg}{p:jh}{r:ji Val}{d:ji ak}{c xs:ji jj}{j:jj}{X:jj->ju jj}
theorem DD{U:lm}{b:ju Oper}{S:jg->Prop}{t:bJ}(r:bJ){d:jf->jf->Act}{c:jf->jf->jg->Prop}(a:∀x y w,c x y w->ey U b e S r (d x y) w)(h:(∀x y w,c x y w->ey U b e S r (d x y) w)->ey U b e S t f w):ey U b e S t f w:=h a
theorem oD{a:Act}{x:nn}{c:jM}{d:TypeDesc}{f:jf}{cs:ji jj}{e:jg}(g:jl.underlying c=jb d)(h:d.isRow=jp)(i:(jl.info? c).map (·.size)=jb cs.length)(j:o.op=.load c x)(k:a.eval x=jC (jb ⟨b,f,ja⟩))(l:e.rangeAt b f cs):
 (kl a.eval o).run jl e=.ok (.value (jk cs.toArray)) e:=rx o a c x j b f k cs d l g h i
theorem JL{a:Act}{d:ju (jf×nn)}{f e au:jh}{b:ju jj}{p:jB jN}{n c:jf}(g:b.size=32)(h:o.op=.build 63 d)(j:(d.map fun(i,x)=>(i,a.eval x))= #[(0,I N f),(1,I N e),(2,jk b),(3,I N au),(4,A p n c)])(W:jg):
 (kl a.eval o).run jl W=.ok (.value (jk (#[I N f,I N e]++b++ #[I N au,A p n c,A ja 0 0,A ja 0 0,A ja 0 0]++(dC.map v8).toArray++ #[I N 0,I N 0]))) W:=by
 simp only[kl,h,j,Sem.run_bind,JA f e au b g p n c,Result.andThen_ok,Sem.run_pure]
theorem L9{f:Act}(b:o.op=.build 64 #[])(W:jg):
 (kl f.eval o).run jl W=.ok (.value (jk (dC.map v8).toArray)) W:=by
 simp only[kl,b,qi,ow,Sem.run_bind,Mt,Result.andThen_ok,Sem.run_pure]
theorem Py{F k:jj}{B:ji Bx}(n:C.last.length=32)(l:w.ownsRow b 47 5 j d.length (d.flatMap ak.cells))(o:w.ownsRow M 3 1 F 10 ((dL g).map (jS .i64)))(q:cP R m 63 54 4 Bx.cells Bx.body X a w h k B c)(r:h=B.length):aF (·<w.heap.size) w {bG C p d g with box:=B} ⟨j,F,k,A ja 0 0⟩:=by
 refine⟨ay.of_own l (λC n=>(l.lt C n).2),?_,q.slice r (λC _ n=>n),⟨[],⟨T,ja,0,T,jn _,λ_=>rfl,λi=>jZ i (Nat.lt_irrefl 0)⟩,T⟩,n,dT⟩;have i:=ay.of_own (D:=(·<w.heap.size)) o (λC n=>(o.lt C n).2);show ay _ w F 1 (dL g).length _;rw[kD];exact i
def kj(D:jf->Prop)(W:jg)(v:jj)(l:ji Bx):Prop:=∃a,ay D W v 4 l.length (dm Bx.cells l a)/\cD D W (l.map Bx.body) a
theorem kj.keep{D':jf->Prop}{v:jj}{l:ji Bx}(h:kj D w v l)(hk:∀g,D g->w'.heap[g]?=w.heap[g]?)(a:∀g,D g->D' g):kj D' w' v l:=by
 obtain⟨b,c,d⟩:=h;exact⟨b,(c.keep hk).mono a,(d.keep hk).mono a⟩
theorem kj.below{v:jj}{l:ji Bx}(h:kj (·<w.heap.size) w v l)(b:jm w w w'):kj (·<w'.heap.size) w' v l:=h.keep (λg a=>b.block g a) (λg a=>jz a b.size)
theorem PV{F k l:jj}{B:ji Bx}{f:ji Wl}(w0:C.last.length=32)(n:w.ownsRow b 47 5 j d.length (d.flatMap ak.cells))(o:w.ownsRow M 3 1 F 10 ((dL g).map (jS .i64)))(s:kj (·<w.heap.size) w k B)(t:cP R m 63 104 3 Wl.cells Wl.body X a w h l f c)(u:h=f.length):aF (·<w.heap.size) w {bG C p d g with box:=B,wel:=f} ⟨j,F,k,l⟩:=by
 refine⟨ay.of_own n (λC w0=>(n.lt C w0).2),?_,s,t.slice u (λC _ w0=>w0),w0,dT⟩;have i:=ay.of_own (D:=(·<w.heap.size)) o (λC w0=>(o.lt C w0).2);show ay _ w F 1 (dL g).length _;rw[kD];exact i
theorem Ps(h:EC.At w j d)(hk:∀(g o:jf) (x:jh),w.cell? ⟨g,o,ja⟩=jb (I N x)->a.cell? ⟨g,o,ja⟩=jb (I N x)):EC.At a j d:=by
 obtain⟨i,p,c,e,k,m,n⟩:=h;refine⟨i,p,c,e,k,m,λq=>?_⟩;obtain⟨g,o,ep,r⟩:=n q;refine⟨g,o,ep,λv w' b=>?_⟩;have s:=r v w' b;have t:∃x,w'=I N x:=by
  have l:=o4 b;unfold EK.flat at l;obtain⟨y,-,u⟩:=List.mem_flatMap.1 l;have f:w'∈ak.cells y:=u;simp only[ak.cells,List.mem_cons,List.mem_nil_iff,or_false]at f
  rcases f with rfl|rfl|rfl|rfl|rfl<;>exact⟨_,T⟩
 obtain⟨x,rfl⟩:=t;exact hk _ _ _ s
theorem NI{v:jj}{l:ji ak}{j:jf}{X d:ju jj}{e:jM}(h:EC.At w v l)(f:w.heap[b]?=jb (jd X e (0,0)))(g:w'.heap[b]?=jb (jd d e (0,0)))(hk:∀k,k<w.heap.size->k≠b->w'.heap[k]?=w.heap[k]?)
 (k:∀i,i≠j->d[i]?=X[i]?) (a:∃p n c,X[j]?=jb (A p n c)):EC.At w' v l:=by
 obtain⟨p,n,c,a⟩:=a;exact Ps h (tc f g k a hk)
theorem Iz{p:jh}{V W:af}{D:jf->Prop}{F m n:jj}(l:C.last.length=32)(f:w.ownsRow b 47 5 j d.length (d.flatMap ak.cells))(i:w.ownsRow M 3 1 F 10 ((dL g).map (jS .i64)))
 (o:kj D w m ((dI (aV C.tree d) p).map (eN C p d g W))) (a:∃h,ay D w n 3 ((dD p d).map (fZ C p d g V W)).length (dm Wl.cells ((dD p d).map (fZ C p d g V W)) h)/\cD D w (((dD p d).map (fZ C p d g V W)).map Wl.body) h)
 (q:∀k,b<=k->k<w.heap.size->D k) (r:∀k,M<=k->k<w.heap.size->D k):aF D w (mk1 C p d g V W) ⟨j,F,m,n⟩:=by
 refine⟨ay.of_own f (λC l=>q C (f.lt C l).1 (f.lt C l).2),?_,o,a,l,dT⟩;have h:=ay.of_own (D:=D) i (λC l=>r C (i.lt C l).1 (i.lt C l).2);show ay _ w F 1 (dL g).length _;rw[kD];exact h
theorem aF.conf(h:aF D w u H){k:af}(hk:k.length=32):aF D w {u with confirm:=k} H:=⟨h.chg,h.path,h.box,h.wel,h.plen,hk⟩
theorem aF.rs(h:aF D w u H)(r s:jh):aF D w {u with r:=r,s:=s} H:=⟨h.chg,h.path,h.box,h.wel,h.plen,h.clen⟩
theorem BU{V W:af}(h:aF D w (mk1 C p d g V W) H):aF D w (mk2 C p d g V W) H:=by
 unfold mk2;exact h.conf (ra _ _)
theorem Ph{g:aI}{a:jh}{x:jf}{b:ji ak}{c init seed:af}{W:jg}{q:CQ}(h:aF D W (mk1 g a b c init seed) q):aF D W (mkC g a x b c init seed) q:=by
 unfold mkC;exact(BU h).rs _ _
theorem aF.later(h:aF (λk=>b<=k/\k<w.heap.size) w u H)(n:jm w w a):aF (λk=>b<=k/\k<a.heap.size) a u H:=
 (h.keep λg w'=>n.block g w'.2).mono λg w'=>⟨w'.1,jz w'.2 n.size⟩
def lO(cs:ju jj):jf->ji jj->ju jj
 |_,[]=>cs
 |o,v::a=>lO (cs.setIfInBounds o v) (o+1) a
theorem zO:∀(d a c b:ji jj),c.length=d.length->lO (a++c++b).toArray a.length d=(a++d++b).toArray
 |[],a,c,b,h=>by
  obtain rfl:c=[]:=qj h
  rfl
 |v::d,a,[],b,h=>by simp at h
 |v::d,a,x::c,b,h=>by
  have e:(a++x::c++b).toArray.setIfInBounds a.length v=((a++[v])++c++b).toArray:=by
   apply ms
   rw[mz];show pa (a++x::c++b) a.length v=_;rw[qu,mF _ _ (jn _),qk];simp
  rw[lO,e];have f:=zO d (a++[v]) c b (ah h);rw[mT]at f;have g:lO ((a++[v])++c++b).toArray (a.length+1) d=(a++[v]++d++b).toArray:=f;rw[g];simp
theorem wg:∀(a:ji jj) (o:jf) (W:jg) (cs:ju jj),W.heap[b]?=jb (jd cs t (0,0))->(W.setCells b o a).heap[b]?=jb (jd (lO cs o a) t (0,0))
 |[],o,W,cs,h=>h
 |v::a,o,W,cs,h=>wg a (o+1) _ _ (mS v h)
theorem sB{k:jf}(hk:k≠b):∀(a:ji jj) (o:jf) (W:jg),(W.setCells b o a).heap[k]?=W.heap[k]?
 |[],o,W=>rfl
 |v::a,o,W=>(sB hk a (o+1) (W.setCell ⟨b,o,ja⟩ v)).trans (fR v hk)
theorem uW(b:jf):∀(a:ji jj) (o:jf) (W:jg),(W.setCells b o a).heap.size=W.heap.size
 |[],o,W=>rfl
 |v::a,o,W=>(uW b a (o+1) (W.setCell ⟨b,o,ja⟩ v)).trans (lY _ _ _)
theorem L1(c:aD)(q:CQ)(k:af)(a:c.parent.length=32)(b:c.confirm.length=32)(d:k.length=32):lO (av c q).toArray 39 (k.map v8)=(av {c with confirm:=k} q).toArray:=by
 have e:∀x:af,av {c with confirm:=x} q=(I N c.folder::I N c.epoch::(c.parent.map v8++[I N c.author,q.vc,q.vp,q.vb,q.vw]))++x.map v8++[I N c.r,I N c.s]:=λx=>by simp[av]
 have h:=zO (k.map v8) (I N c.folder::I N c.epoch::(c.parent.map v8++[I N c.author,q.vc,q.vp,q.vb,q.vw])) (c.confirm.map v8) [I N c.r,I N c.s] (by simp[b,d]);have f:(jS .i64 c.folder::I N c.epoch::(c.parent.map v8++[I N c.author,q.vc,q.vp,q.vb,q.vw])).length=39:=by simp[a]
 rw[f,<-e,<-e]at h;exact h
theorem Rk(c:aD)(q:CQ)(r s:jh)(a:c.parent.length=32)(b:c.confirm.length=32):lO (av c q).toArray 71 [I N r,I N s]=(av {c with r:=r,s:=s} q).toArray:=by
 have e:∀x y:jh,av {c with r:=x,s:=y} q=(I N c.folder::I N c.epoch::(c.parent.map v8++([I N c.author,q.vc,q.vp,q.vb,q.vw]++c.confirm.map v8)))++[I N x,I N y]++[]:=λx y=>by simp[av]
 have h:=zO [I N r,I N s] (I N c.folder::I N c.epoch::(c.parent.map v8++([I N c.author,q.vc,q.vp,q.vb,q.vw]++c.confirm.map v8))) [I N c.r,I N c.s] [] T;have d:(jS .i64 c.folder::I N c.epoch::(c.parent.map v8++([I N c.author,q.vc,q.vp,q.vb,q.vw]++c.confirm.map v8))).length=71:=by simp[a,b]
 rw[d,<-e,<-e]at h;exact h
theorem ge.conf(h:ge u){k:af}(hk:k.length=32):ge {u with confirm:=k}:=⟨h.ints,h.plen,hk,h.chg,h.path,h.box,h.wel⟩
theorem ge.rs(h:ge u){r s:jh}(a:IR r)(b:IR s):ge {u with r:=r,s:=s}:=⟨⟨h.ints.1,h.ints.2.1,h.ints.2.2.1,a,b⟩,h.plen,h.clen,h.chg,h.path,h.box,h.wel⟩
theorem M4(c:aD)(x y:jh)(l:c.r=0)(m:c.s=0):({({c with r:=x,s:=y}:aD)with r:=0,s:=0}:aD)=c:=by
 obtain⟨a,b,c,d,e,f,g,h,i,j,k⟩:=c;obtain rfl:j=0:=l;obtain rfl:k=0:=m
 rfl
theorem Iq(c:aD)(x:af)(l:c.confirm=dC):({({c with confirm:=x}:aD)with confirm:=dC}:aD)=c:=by
 obtain⟨a,b,c,d,e,f,g,h,i,j,k⟩:=c;obtain rfl:i=dC:=l
 rfl
theorem Q4(g:aI)(a:jh)(b:ji ak)(c init seed:af)(q:CQ):av (mk1 g a b c init seed) q=av (bG g a b c) q:=by simp only[av,mk1,bG]
theorem m8(g:aI)(a:jh)(b:ji ak)(c init seed:af):(mk1 g a b c init seed).parent=g.last/\(mk1 g a b c init seed).confirm.length=32:=by
 unfold mk1;exact⟨T,dT⟩
theorem Bs(g:aI)(a:jh)(c:ji ak)(b init seed:af):mk2 g a c b init seed={mk1 g a c b init seed with confirm:=rM (gh g b init) (de sZ ((aJ (mk1 g a c b init seed)).take 8))}:=by unfold mk2;rfl
theorem EN(g:aI)(a:jh)(x:jf)(b:ji ak)(c init seed:af):mkC g a x b c init seed={mk2 g a b c init seed with r:=((lE x (dJ (mk2 g a b c init seed)):jf):jh),s:=((lX x (dJ (mk2 g a b c init seed)):jf):jh)}:=by unfold mkC;rfl
theorem Ac(c:aD)(k:af):({c with confirm:=k}:aD).confirm=k/\({c with confirm:=k}:aD).parent=c.parent:=⟨T,T⟩
theorem ot(g:aI)(a:jh)(b:ji ak)(c init seed:af):(mk2 g a b c init seed).parent=g.last/\(mk2 g a b c init seed).confirm.length=32:=by
 rw[Bs,(Ac _ _).1,(Ac _ _).2];exact⟨(m8 ..).1,ra _ _⟩
theorem Eb(c:aD)(r s:jh):({c with r:=r,s:=s}:aD).confirm=c.confirm/\({c with r:=r,s:=s}:aD).parent=c.parent:=⟨T,T⟩
theorem zR(g:aI)(a:jh)(x:jf)(b:ji ak)(c init seed:af):(mkC g a x b c init seed).parent=g.last/\(mkC g a x b c init seed).confirm.length=32:=by
 rw[EN,(Eb _ _ _).1,(Eb _ _ _).2];exact ot ..
theorem KF{V W:af}(h:ge (mkC C p b d g V W)):ge (mk1 C p d g V W)/\ge (mk2 C p d g V W):=by
 have z:IR 0:=⟨by decide,by decide⟩;have e:ge (mk2 C p d g V W):=by
  have x:=h.rs z z;unfold mkC at x;rw[M4 _ _ _ T T]at x;exact x
 have x:=e.conf dT;unfold mk2 at x;rw[Iq _ _ T]at x;exact⟨x,e⟩
theorem tP{Q S:Prop}(k:S)(h:S->Q:=by intro k;refine aE (v:=?_) rfl aj (λW' hS=>?_) ?_;rotate_left;(have b0:=ae (i:=1) hS.1 rfl;have b1:=ae (i:=2) hS.1 rfl;clear hS;go_simp;with_reducible rfl);refine L ?_;exact k):Q:=h k
theorem Fp(g:aI)(vm vt vl:jj)(a x:jh)(m:ji ak)(z init seed:af)(w:jg)(h:cr w g vm vt)(ad:ay (·<w.heap.size) w vl 5 m.length (m.flatMap ak.cells))
 (a5:z.length=32) (ba:init.length=32) (ga:seed.length=32) (hT:kr w) (U:gy w) (bk:g.mem.length<=900000) (bl:g.tree.length<=600000) (D:m.length<=1000000):
 jr jl 17 #[jk (aG g vm vt).toArray,I N a,I N x,vl,jk (z.map v8).toArray,jk (init.map v8).toArray,jk (seed.map v8).toArray] w (MZ g a x m z init seed (mf g a x m) w):=by
 obtain⟨er,bb⟩:=J (mf g a x m);rw[<-bb];have ho:=O bb;have bc:=lC (vm:=vm) (vt:=vt) h.llen;have SH:=mi (vm:=vm) (vt:=vt) h.llen;have bd:∀(w:jg) (b:jf),w.heap[b]?=jb (jd (aG g vm vt).toArray 29 (0,0))->w.rangeAt b 2 (g.last.map v8):=λw b hb=>dh.last ⟨hb,h.llen⟩
 have HN:jc (∀W,cr W g vm vt->EC.At W vl m->jr jl 10 #[jk (aG g vm vt).toArray,I N a,vl] W λe w'=>∃aa,e=jq (j8 #[aa,I N (cK g a m)])/\w'.ownsRow W 54 4 aa (dj g a m).length (EB0.flat (dj g a m))/\jm W W w'):=O (λW hW hL=>rQ g vm vt _ _ _ W hW hL Y Y D);have gn:jc (∀W,co g->dz m->dQ g a m->cr W g vm vt->EC.At W vl m->jr jl 42 #[jk (aG g vm vt).toArray,I N a,vl] W λe w'=>e=jq (I N (dO g a m))/\jm W W w'):=O (λW hv hf hp hW hL=>Ek g vm vt _ _ _ W hW (sT hv) Y hL (λhn=>by
  have c:=hp.own;rw[hn]at c;obtain⟨x,r,h1,-⟩:=hp.first (by have:=hv.ep.1;have h2:=of_decide_eq_false c.symm;omega);rw[h1];simp))
 have Yr:jc (∀W,dz m->cr W g vm vt->EC.At W vl m->jr jl 36 #[jk (aG g vm vt).toArray,vl] W λe w'=>∃aa,e=jq (jk #[aa])/\bp w' aa (aV g.tree m)/\jm W W w'):=O (λW hf hW hL=>vF g vm vt _ _ W hW hf Y hL);obtain⟨al,M⟩:=J ((aG g vm vt).toArray);obtain⟨RP,hL⟩:=J ((z.map v8).toArray);obtain⟨bn,Q⟩:=J ((init.map v8).toArray);obtain⟨S,X⟩:=J ((seed.map v8).toArray);have c:∀(l:af),l.length=32->(jl.info? 64).map (·.size)=jb (l.map v8).toArray.size:=λl D=>by rw[jD,jw,D];kernel_rfl
 have UX:jc ((jl.info? 64).map (·.size)=jb RP.size):=O (by rw[hL];exact c _ a5);have i3:jc ((jl.info? 64).map (·.size)=jb bn.size):=O (by rw[Q];exact c _ ba);have hr:jc ((jl.info? 64).map (·.size)=jb S.size):=O (by rw[X];exact c _ ga);rw[<-M]at bc HN gn Yr bd⊢;rw[<-hL,<-Q,<-X];clear c;obtain⟨x0,k⟩:=J (((((((w.alloc (jd al 29)).alloc (jd RP 64)).alloc (jd bn 64)).alloc (jd S 64)).alloc (jd zeroCells63 63)).alloc (jd aT 64)));obtain⟨t,hG⟩:=J w.heap.size;have i:=jt w (jd al 29);have c:=ai w (jd al 29);have a1:=jt (w.alloc (jd al 29)) (jd RP 64);have d:=ai (w.alloc (jd al 29)) (jd RP 64);have SY:=jt ((w.alloc (jd al 29)).alloc (jd RP 64)) (jd bn 64);have j:=ai ((w.alloc (jd al 29)).alloc (jd RP 64)) (jd bn 64);have o:=jt (((w.alloc (jd al 29)).alloc (jd RP 64)).alloc (jd bn 64)) (jd S 64);have q:=ai (((w.alloc (jd al 29)).alloc (jd RP 64)).alloc (jd bn 64)) (jd S 64);have C:=jt ((((w.alloc (jd al 29)).alloc (jd RP 64)).alloc (jd bn 64)).alloc (jd S 64)) (jd zeroCells63 63);have s:=ai ((((w.alloc (jd al 29)).alloc (jd RP 64)).alloc (jd bn 64)).alloc (jd S 64)) (jd zeroCells63 63);have db:=jt (((((w.alloc (jd al 29)).alloc (jd RP 64)).alloc (jd bn 64)).alloc (jd S 64)).alloc (jd zeroCells63 63)) (jd aT 64);have v:=ai (((((w.alloc (jd al 29)).alloc (jd RP 64)).alloc (jd bn 64)).alloc (jd S 64)).alloc (jd zeroCells63 63)) (jd aT 64);replace i:=az i d;replace i:=az i j;replace i:=az i q;replace i:=az i s;replace i:=az i v;rw[jF]at a1;replace a1:=az a1 j;replace a1:=az a1 q;replace a1:=az a1 s;replace a1:=az a1 v;rw[jF,jF]at SY;replace SY:=az SY q;replace SY:=az SY s;replace SY:=az SY v;rw[jF,jF,jF]at o;replace o:=az o s;replace o:=az o v;rw[jF,jF,jF,jF]at C;replace C:=az C v;rw[jF,jF,jF,jF,jF]at db;have hB:=(((((c).trans (d.mono (c).size)).trans (j.mono ((c).trans (d.mono (c).size)).size)).trans (q.mono (((c).trans (d.mono (c).size)).trans (j.mono ((c).trans (d.mono (c).size)).size)).size)).trans (s.mono ((((c).trans (d.mono (c).size)).trans (j.mono ((c).trans (d.mono (c).size)).size)).trans (q.mono (((c).trans (d.mono (c).size)).trans (j.mono ((c).trans (d.mono (c).size)).size)).size)).size)).trans (v.mono (((((c).trans (d.mono (c).size)).trans (j.mono ((c).trans (d.mono (c).size)).size)).trans (q.mono (((c).trans (d.mono (c).size)).trans (j.mono ((c).trans (d.mono (c).size)).size)).size)).trans (s.mono ((((c).trans (d.mono (c).size)).trans (j.mono ((c).trans (d.mono (c).size)).size)).trans (q.mono (((c).trans (d.mono (c).size)).trans (j.mono ((c).trans (d.mono (c).size)).size)).size)).size)).size);rw[<-k]at hB;rw[<-k,<-hG]at i;rw[<-k,<-hG]at a1;rw[<-k,<-hG]at SY;rw[<-k,<-hG]at o;rw[<-k,<-hG]at C;rw[<-k,<-hG]at db;have SJ:=O i;have a3:=O a1;have a4:=O SY;have Tp:=O o;have P:=O C;have H:=O db;have V:=O hB;have HW:=O k;have HG:=O hG;have gp:=O h;have dd:=O ad;obtain⟨RR,F⟩:∃y:ju jj,y=zeroCells63:=⟨_,T⟩;obtain⟨K,u⟩:∃y:ju jj,y=aT:=⟨_,T⟩;have Zn:jc ((av eR fX).toArray=RR):=O (by rw[F];rfl);have b5:jc ((dC.map v8).toArray=K):=O (by rw[u];rfl);have Sb:jc ((jl.info? 63).map (·.size)=jb RR.size):=O (by rw[F];kernel_rfl);have a2:jc ((jl.info? 64).map (·.size)=jb K.size):=O (by rw[u];kernel_rfl);have dn:jc (RR.all (·.oneCell')=jp):=O (by rw[F];kernel_rfl);have Ua:jc (K.all (·.oneCell')=jp):=O (by rw[u];kernel_rfl);replace P:jc (x0.heap[(t+1+1+1+1)]?=jb (jd RR 63 (0,0))):=O (by rw[F];exact P);replace H:jc (x0.heap[(t+1+1+1+1+1)]?=jb (jd K 64 (0,0))):=O (by rw[u];exact H);have Uk:=O bc;have hP:=O bd;have hs:=O hT;have SP:=O U;have i4:=O bk;have Vq:=O bl;have gb:=O D;have Ti:=O a5;have Wm:=O ba;have ht:=O ga;have UB:=O h.llen;have cj:jc (al[0]?=jb (I N g.folder)/\al[1]?=jb (I N g.epoch)):=O (by rw[M];have:=SH;exact⟨by simpa using this.1,by simpa using this.2.1⟩);have Vt:=O M;have hQ:=O hL;have hw:=O Q;have hx:=O X;obtain⟨pc,nc,R,Zd⟩:∃p n c',vl=A p n c':=by obtain⟨p,c',h⟩:=ad.form;exact⟨p,_,c',h⟩
 subst Zd;obtain⟨ep,bf⟩:=J g.epoch;obtain⟨fd,WG⟩:=J g.folder;rw[<-bf,<-WG]at cj;have Uy:=O bf;have hR:=O WG;have bg:=O (vH g a m);obtain⟨ne,bh⟩:=J (cK g a m);rw[<-bh]at HN bg;have dr:=O bh;clear h ad a5 ba ga hT U bk bl D bb bc SH bd M hL Q X F u bf WG bh;clear hB k hG i c a1 d SY j o q C s db v
 go_enter func17,ntmps17
 go_upto_region 1 with fail
 rw[<-HW,<-HG];have ds:jc ((t+1+1+1+1+1)<x0.heap.size):=O (js.1 H).1;have k:=ae SJ cj.2
 by_cases h1:1099511627776<=ep
 case pos=>
  have hz:decide (1099511627776<=ep)=jp:=ah h1;have c:jc (er=1):=O (by rw[ho];unfold mf;rw[jv (by rw[<-Uy];exact h1)]);clear h1
  go_upto_region 2 with fail
  refine jO ?_;refine bY (λF=>F.heap[(t+1+1+1+1)]?=jb (jd RR 63 (0,0))/\F.heap[(t+1+1+1+1+1)]?=jb (jd K 64 (0,0))) (.t 0 (.t 1 (.o 2 (.o 3 (.t 4 .done))))) ag ag ag G (λ_ _ _ _ h=>h) ⟨P,H⟩ ?_;obtain⟨e0,RQ⟩:=J x0.drew;have d:=bz x0;rw[<-RQ]at d⊢;have Uz:=Z P d;have UA:=Z H d;have TR:=ac V d;clear d RQ P H V;have P:=Uz;clear Uz;have H:=UA;clear UA;have V:=TR;clear TR
  (refine aE (v:=jk RR) T aj (λF U=>cI jP T Sb T T U.1) (L ?_))
  (refine aE (v:=jk K) T aj (λF U=>cI jI T a2 T T U.2) (L ?_))
  refine ar T (λK' u=>?_);rw[jv aj];refine jE 63 _ _ T (t+1+1+1+1) RR T T 63 _ P.out Sb T dn ?_;rw[dR P];refine u _ _ ⟨P,H⟩ λ_=>?_
  clear u;refine L ?_;refine ar T (λK' u=>?_);rw[jv aj];refine jE 64 _ _ T (t+1+1+1+1+1) K T T 64 _ H.out a2 T Ua ?_;rw[dR H];refine u _ _ ⟨P,H⟩ λ_=>?_
  clear u;refine L ?_;refine aL ?_;refine jL ?_
  go_wp2_with fail
  exact jW (o9 T _ _ (t+1+1+1+1) (t+1+1+1+1+1) 63 64 RR K (0,0) (0,0) _ _ T T P H jP T Sb jI T a2) T ⟨λh=>jZ (c.symm.trans h) G,λ_=>by rw[Zn,b5,c];kernel_rfl,V⟩
 have hz:decide (1099511627776<=ep)=jo:=ah h1;have hS:ep<1099511627776:=Y;have i:jc (er=if cK g a m≠0 then cK g a m else if x<1\/2305843009213688669<=x then 50 else if((aR 4 x.toNat:jf):jh)≠dO g a m then 221 else 0):=O (by rw[ho];unfold mf;rw[jG (by rw[<-Uy];exact h1)]);clear h1
 go_upto_region 3 with fail
 clear hz k;refine j0 ?_;refine jQ T 29 _ T t T 29 al (0,0) _ SJ.out qo T Uk ?_
 go_wp2_with fail
 refine(HN x0 (gp.below V) ((EK.At.of_sl (E:=EC) dd).below V)).mono ?_;rintro e x1 ⟨aa,rfl,hu,d⟩;have q:=O hu;clear hu;have s:=Z SJ d;have Zg:=Z a3 d;have SC:=Z a4 d;have Su:=Z Tp d;have R0:=Z P d;have R5:=Z H d;have RD:=ac V d;clear SJ a3 a4 Tp P H V;clear d;obtain⟨pu,hT,rfl⟩:=a8 q;obtain⟨nu,j⟩:=J ((dj g a m).length);rw[<-j]at q⊢;have hB:=O j;clear j
 rcases bg.out with⟨-,C⟩|⟨-,-,C⟩|⟨hv,hf,hp,C⟩
 case inl=>
  have c:jc (er=1):=O (by rw[i,<-dr,C];rfl);subst C;clear q
  go_upto_region 5 with fail
  refine jO ?_;refine bY (λF=>F.heap[(t+1+1+1+1)]?=jb (jd RR 63 (0,0))/\F.heap[(t+1+1+1+1+1)]?=jb (jd K 64 (0,0))) (.t 0 (.t 1 (.t 2 (.o 3 (.o 4 (.t 5 .done)))))) ag ag ag G (λ_ _ _ _ h=>h) ⟨R0,R5⟩ ?_;obtain⟨e0,RQ⟩:=J x1.drew;have d:=bz x1;rw[<-RQ]at d⊢;have Uz:=Z R0 d;have UA:=Z R5 d;have TR:=ac RD d;clear d RQ R0 R5 RD;have P:=Uz;clear Uz;have H:=UA;clear UA;have V:=TR;clear TR
  (refine aE (v:=jk RR) T aj (λF U=>cI jP T Sb T T U.1) (L ?_))
  (refine aE (v:=jk K) T aj (λF U=>cI jI T a2 T T U.2) (L ?_))
  refine aL ?_;refine ar T (λK' u=>?_);rw[jv aj];refine jE 63 _ _ T (t+1+1+1+1) RR T T 63 _ P.out Sb T dn ?_;rw[dR P];refine u _ _ ⟨P,H⟩ λ_=>?_
  clear u;refine L ?_;refine ar T (λK' u=>?_);rw[jv aj];refine jE 64 _ _ T (t+1+1+1+1+1) K T T 64 _ H.out a2 T Ua ?_;rw[dR H];refine u _ _ ⟨P,H⟩ λ_=>?_
  clear u;refine L ?_;refine aL ?_;refine jL ?_
  go_wp2_with fail
  exact jW (o9 T _ _ (t+1+1+1+1) (t+1+1+1+1+1) 63 64 RR K (0,0) (0,0) _ _ T T P H jP T Sb jI T a2) T ⟨λh=>jZ (c.symm.trans h) G,λ_=>by rw[Zn,b5,c];kernel_rfl,V⟩
 case inr.inl=>
  have c:jc (er=221):=O (by rw[i,<-dr,C];rfl);subst C;clear q
  go_upto_region 5 with fail
  refine jO ?_;refine bY (λF=>F.heap[(t+1+1+1+1)]?=jb (jd RR 63 (0,0))/\F.heap[(t+1+1+1+1+1)]?=jb (jd K 64 (0,0))) (.t 0 (.t 1 (.t 2 (.o 3 (.o 4 (.t 5 .done)))))) ag ag ag G (λ_ _ _ _ h=>h) ⟨R0,R5⟩ ?_;obtain⟨e0,RQ⟩:=J x1.drew;have d:=bz x1;rw[<-RQ]at d⊢;have Uz:=Z R0 d;have UA:=Z R5 d;have TR:=ac RD d;clear d RQ R0 R5 RD;have P:=Uz;clear Uz;have H:=UA;clear UA;have V:=TR;clear TR
  (refine aE (v:=jk RR) T aj (λF U=>cI jP T Sb T T U.1) (L ?_))
  (refine aE (v:=jk K) T aj (λF U=>cI jI T a2 T T U.2) (L ?_))
  refine aL ?_;refine ar T (λK' u=>?_);rw[jv aj];refine jE 63 _ _ T (t+1+1+1+1) RR T T 63 _ P.out Sb T dn ?_;rw[dR P];refine u _ _ ⟨P,H⟩ λ_=>?_
  clear u;refine L ?_;refine ar T (λK' u=>?_);rw[jv aj];refine jE 64 _ _ T (t+1+1+1+1+1) K T T 64 _ H.out a2 T Ua ?_;rw[dR H];refine u _ _ ⟨P,H⟩ λ_=>?_
  clear u;refine L ?_;refine aL ?_;refine jL ?_
  go_wp2_with fail
  exact jW (o9 T _ _ (t+1+1+1+1) (t+1+1+1+1+1) 63 64 RR K (0,0) (0,0) _ _ T T P H jP T Sb jI T a2) T ⟨λh=>jZ (c.symm.trans h) G,λ_=>by rw[Zn,b5,c];kernel_rfl,V⟩
 have o:jc (er=if x<1\/2305843009213688669<=x then 50 else if((aR 4 x.toNat:jf):jh)≠dO g a m then 221 else 0):=O (by rw[i,<-dr,C];rfl);subst C;have j:co g:=by
  by_cases C:co g
  ·exact C
  rw[ij C]at hv;cases hv
 have Zi:=O j;have WI:=O (nB.1 hf);have gv:=O (rZ.1 hp);have T9:jc (dj g a m=dI (aV g.tree m) a):=O (lR dr.symm);have i5:0<=ep:=by rw[Uy];exact j.ep.1
 have WR:=O (mw j WI gv);clear hv hf hp j i bg
 by_cases dv:iY x
 case neg=>
  have c:jc (er=50):=O (by rw[o,jv (by unfold iY at dv;omega)]);have i:=O (GH x dv);clear dv q
  go_wp2_with fail
  refine(i x1).mono ?_;rintro e x2 ⟨rfl,rfl⟩
  go_upto_region 8 with fail
  refine jO ?_;refine bY (λF=>F.heap[(t+1+1+1+1)]?=jb (jd RR 63 (0,0))/\F.heap[(t+1+1+1+1+1)]?=jb (jd K 64 (0,0))) (.t 0 (.t 1 (.t 2 (.o 3 (.o 4 (.t 5 .done)))))) ag ag ag G (λ_ _ _ _ h=>h) ⟨R0,R5⟩ ?_;obtain⟨e0,RQ⟩:=J x1.drew;have d:=bz x1;rw[<-RQ]at d⊢;have Uz:=Z R0 d;have UA:=Z R5 d;have TR:=ac RD d;clear d RQ R0 R5 RD;have P:=Uz;clear Uz;have H:=UA;clear UA;have V:=TR;clear TR
  (refine aE (v:=jk RR) T aj (λF U=>cI jP T Sb T T U.1) (L ?_))
  (refine aE (v:=jk K) T aj (λF U=>cI jI T a2 T T U.2) (L ?_))
  refine aL ?_;refine ar T (λK' u=>?_);rw[jv aj];refine jE 63 _ _ T (t+1+1+1+1) RR T T 63 _ P.out Sb T dn ?_;rw[dR P];refine u _ _ ⟨P,H⟩ λ_=>?_
  clear u;refine L ?_;refine ar T (λK' u=>?_);rw[jv aj];refine jE 64 _ _ T (t+1+1+1+1+1) K T T 64 _ H.out a2 T Ua ?_;rw[dR H];refine u _ _ ⟨P,H⟩ λ_=>?_
  clear u;refine L ?_;refine aL ?_;refine jL ?_
  go_wp2_with fail
  exact jW (o9 T _ _ (t+1+1+1+1) (t+1+1+1+1+1) 63 64 RR K (0,0) (0,0) _ _ T T P H jP T Sb jI T a2) T ⟨λh=>jZ (c.symm.trans h) G,λ_=>by rw[Zn,b5,c];kernel_rfl,V⟩
 obtain⟨X,hX⟩:=pz (show 0<=x by have:=dv.1;omega);have i7:=O hX;obtain⟨i,j⟩:=dv;subst hX;have S4:jc (1<=X/\X<2305843009213688669):=O ⟨by omega,by omega⟩;have U8:jc (er=if((aR 4 X:jf):jh)≠dO g a m then 221 else 0):=O (by rw[o,jG Y];rfl);clear i j o
 go_wp2_with fail
 refine(tI X S4.1 S4.2 x1).mono ?_;rintro e x2 ⟨rfl,d⟩;have i:=Z s d;have D:=Z Zg d;have M:=Z SC d;have R7:=Z Su d;have R3:=Z R0 d;have Se:=Z R5 d;have RE:=ac RD d;have ea:=aO q d;clear s Zg SC Su R0 R5 RD q;clear d;obtain⟨vk,j⟩:=J (dO g a m);obtain⟨pb,eb⟩:∃y:jh,y=((aR 4 X:jf):jh):=⟨_,T⟩;rw[<-j]at gn U8;rw[<-eb]at U8⊢;have TY:=O j;have hU:=O eb;clear j eb
 go_upto_region 9 with fail
 refine j0 ?_;refine bH ?_;refine jQ T 29 _ T t T 29 al (0,0) _ i.out qo T Uk (L ?_)
 go_wp2_with fail
 refine(gn x2 Zi WI gv (gp.below RE) ((EK.At.of_sl (E:=EC) dd).below RE)).mono ?_;rintro e x3 ⟨rfl,d⟩;have S2:=Z i d;have Wn:=Z D d;have o:=Z M d;have Tf:=Z R7 d;have Sl:=Z R3 d;have Ss:=Z Se d;have RI:=ac RE d;have Wo:=aO ea d;clear i D M R7 R3 Se RE ea;clear d
 by_cases h2:pb=vk
 case neg=>
  have gf:(pb !=vk)=jp:=ah h2;have gi:(pb==vk)=jo:=ah h2;have c:jc (er=221):=O (by rw[U8,jv h2]);clear h2 Wo
  go_upto_region 10 with fail
  refine jO ?_;refine bY (λF=>F.heap[(t+1+1+1+1)]?=jb (jd RR 63 (0,0))/\F.heap[(t+1+1+1+1+1)]?=jb (jd K 64 (0,0))) (.t 0 (.t 1 (.o 2 (.o 3 (.t 4 .done))))) ag ag ag G (λ_ _ _ _ h=>h) ⟨Sl,Ss⟩ ?_;obtain⟨e0,RQ⟩:=J x3.drew;have d:=bz x3;rw[<-RQ]at d⊢;have Uz:=Z Sl d;have UA:=Z Ss d;have TR:=ac RI d;clear d RQ Sl Ss RI;have P:=Uz;clear Uz;have H:=UA;clear UA;have V:=TR;clear TR
  (refine aE (v:=jk RR) T aj (λF U=>cI jP T Sb T T U.1) (L ?_))
  (refine aE (v:=jk K) T aj (λF U=>cI jI T a2 T T U.2) (L ?_))
  refine ar T (λK' u=>?_);rw[jv aj];refine jE 63 _ _ T (t+1+1+1+1) RR T T 63 _ P.out Sb T dn ?_;rw[dR P];refine u _ _ ⟨P,H⟩ λ_=>?_
  clear u;refine L ?_;refine ar T (λK' u=>?_);rw[jv aj];refine jE 64 _ _ T (t+1+1+1+1+1) K T T 64 _ H.out a2 T Ua ?_;rw[dR H];refine u _ _ ⟨P,H⟩ λ_=>?_
  clear u;refine L ?_;refine aL ?_;refine jL ?_
  go_wp2_with fail
  exact jW (o9 T _ _ (t+1+1+1+1) (t+1+1+1+1+1) 63 64 RR K (0,0) (0,0) _ _ T T P H jP T Sb jI T a2) T ⟨λh=>jZ (c.symm.trans h) G,λ_=>by rw[Zn,b5,c];kernel_rfl,V⟩
 have gf:(pb !=vk)=jo:=ah h2;have gi:(pb==vk)=jp:=ah h2;have Vm:jc (er=0):=O (by rw[U8,jG (λhn=>hn h2)]);have hV:jc (dO g a m=(aR 4 X:jf)):=O (by rw[<-TY,<-h2,hU]);clear h2;have k:=ae S2 cj.2;obtain⟨ix,c⟩:=J (if g.epoch=0 then dC else init);obtain⟨IX,i⟩:=J ((ix.map v8).toArray);have j:ix.length=32:=by rw[c];split;exact dT;exact Wm
 have hY:=O j;have bm:=O c;have bq:=O i;have gw:jc ((jl.info? 64).map (·.size)=jb IX.size):=O (by rw[i,jD,jw,j];kernel_rfl);clear j
 go_upto_if 69 with fail
 go_cut []from 69 (λj=>j=x3.setRow (t+1+1) IX)
 case first=>
  by_cases j:ep=0
  ·have D:(ep==0)=jp:=ah j
   have M:IX=(dC.map v8).toArray:=by rw[i,c,jv (by rw[<-Uy];exact j)]
   have Q:jc ((dC.map v8).toArray.all (·.oneCell')=jp):=O (ee _);have ad:jc (bn.size=(dC.map v8).toArray.size):=O (by rw[hw,jD,jw,jD,jw,Wm,dT]);rw[M]at gw;have a5:=O M;clear j M i c
   try rw[D]
   go_upto_region 12 with fail
   refine j0 ?_;refine df (v:=jk (dC.map v8).toArray) aj (L9 T _) ?_;refine jJ T λ_ u=>jE 64 _ _ T (t+1+1) (dC.map v8).toArray T T 64 _ o.out gw ad Q (u _ _ ?_)
   refine L ?_
   go_wp2_with fail
   go_meet
   rw[a5]
  have D:(ep==0)=jo:=ah j;have M:IX=bn:=by rw[i,c,jG (by rw[<-Uy];exact j),hw]
  have Q:=O M;clear j M i c
  try rw[D]
  go_wp2_with fail
  go_meet
  rw[Q];exact(dR o).symm
 subst hcut;clear i c gf gi k;have c:jc ((x3.setRow (t+1+1) IX).heap[t]?=jb (jd al 29 (0,0))):=O ((jy _ _ _ _ (by first|omega|(have:=VL.out;omega))).trans S2);have D:jc ((x3.setRow (t+1+1) IX).heap[t+1]?=jb (jd RP 64 (0,0))):=O ((jy _ _ _ _ (by first|omega|(have:=VL.out;omega))).trans Wn);have M:jc ((x3.setRow (t+1+1) IX).heap[t+1+1]?=jb (jd IX 64 (0,0))):=O (j6 _ _ _ _ _ _ o.out);have Q:jc ((x3.setRow (t+1+1) IX).heap[t+1+1+1]?=jb (jd S 64 (0,0))):=O ((jy _ _ _ _ (by first|omega|(have:=VL.out;omega))).trans Tf);have YZ:jc ((x3.setRow (t+1+1) IX).heap[(t+1+1+1+1)]?=jb (jd RR 63 (0,0))):=O ((jy _ _ _ _ (by first|omega|(have:=VL.out;omega))).trans Sl);have Y5:jc ((x3.setRow (t+1+1) IX).heap[(t+1+1+1+1+1)]?=jb (jd K 64 (0,0))):=O ((jy _ _ _ _ (by first|omega|(have:=VL.out;omega))).trans Ss);have Y4:jc (jm w w (x3.setRow (t+1+1) IX)):=O (nz RI.out (by rw[HG];omega) _);have ad:=O (mh (w':=(x3.setRow (t+1+1) IX)) Wo (λk hk=>jy _ _ _ _ (aA ds)));generalize(x3.setRow (t+1+1) IX)=x4 at c D M Q YZ Y5 Y4 ad⊢;clear S2 Wn o Tf Sl Ss RI Wo;have UK:=c;clear c;have o:=D;clear D;have ba:=M;clear M;have TG:=Q;clear Q;have Ty:=YZ;clear YZ;have Tj:=Y5;clear Y5;have RO:=Y4;clear Y4;have bb:=ad;clear ad
 go_upto_region 13 with fail
 refine j0 ?_;refine jQ T 64 _ T (t+1) T 64 RP (0,0) _ o.out jI T UX ?_;have a5:jc (∀W,da W->jr jl 22 #[jk RP] W λe w'=>∃v,e=jq v/\w'.ownsRow W 64 32 v 10 (fV (fH z 10))/\jm W W w'):=O (by rw[hQ];exact λW hW=>Bu z Ti W hW)
 go_wp2_with fail
 refine(a5 x4 (SP.dig.below RO)).mono ?_;rintro e x5 ⟨v,rfl,hv,d⟩;obtain⟨gl,cl,LC,rfl,i9,bc,bd,Vy⟩:=F5 hv G;have ec:=O bd;have VL:jc (t+6<=gl):=O (by have h5:=(js.1 Tj).1;have:=bc;omega);have gm:jc (∀i j aa,i<10->((cG z i).map v8)[j]?=jb aa->LC[i*32+j]?=jb aa):=O (λi j aa hi hj=>Vy _ _ (Fi z Ti 10 i j hi aa hj));clear hv bd Vy bc a5;have VP:=Z UK d;have bf:=Z o d;have a5:=Z ba d;have WS:=Z TG d;have ZT:=Z Ty d;have Vi:=Z Tj d;have RX:=ac RO d;have bg:=aO bb d;clear UK o ba TG Ty Tj RO bb;clear d;obtain⟨RL,ba⟩:=J (((cG z 9).map v8).toArray);obtain⟨SA,o⟩:=J (((gh g z init).map v8).toArray);have br:jc (∀W,gy W->jr jl 26 #[jk IX,jk RL] W λe w'=>e=jq (jk SA)/\jm W W w'):=O (by
  rw[bq,ba,o];unfold gh;rw[<-bm];exact λW hW=>EQ ix (cG z 9) hY (eQ z Ti 9) W hW)
 have ed:jc ((jl.info? 64).map (·.size)=jb SA.size):=O (by rw[o,jD,jw,k7];kernel_rfl);have hZ:jc (K.size=SA.size):=O (by rw[o,<-b5,jD,jw,jD,jw,k7,dT]);have hD:jc (SA.all (·.oneCell')=jp):=O (by rw[o];exact ee _);have bs:=O ba;have gz:=O o;have bv:jc ((jl.info? 64).map (·.size)=jb ((cG z 9).map v8).length):=O (by rw[jw,eQ z Ti];kernel_rfl);clear ba o
 go_upto_region 14 with fail
 refine jO ?_;refine bY (λF=>F.heap[t+1+1]?=jb (jd IX 64 (0,0))/\F.heap[gl]?=jb (jd LC 64 (0,0))) (.t 0 (.t 1 (.t 2 (.t 3 (.o 4 (.o 5 .done)))))) ag ag ag G (λ_ _ _ _ h=>h) ⟨a5,ec⟩ ?_;obtain⟨y0,RQ⟩:=J x5.drew;have d:=bz x5;rw[<-RQ]at d⊢;have Yq:=Z VP d;have bb:=Z bf d;have bc:=Z a5 d;have bu:=Z WS d;have Uz:=Z ZT d;have UA:=Z Vi d;have TR:=ac RX d;have bd:=aO bg d;have ca:=Z ec d;clear d RQ VP bf a5 WS ZT Vi RX bg ec;have SJ:=Yq;clear Yq;have a3:=bb;clear bb;have a4:=bc;clear bc;have Tp:=bu;clear bu;have P:=Uz;clear Uz;have H:=UA;clear UA;have V:=TR;clear TR;have ZP:=bd;clear bd;have bo:=ca;clear ca
 (refine aE (v:=jk IX) T aj (λF U=>cI jI T gw T T U.1) (L ?_))
 iterate 2 refine aL ?_
 (refine aE (v:=jk RL) T aj (λF U=>by rw[bs];exact oD jI T bv T T (sa (o:=288) U.2 (λj aa hj=>gm 9 j aa G hj))) ?_;refine L ?_)
 refine ar T (λK' u=>?_);go_simp;refine(br y0 (SP.below V)).mono ?_;rintro e y1 ⟨rfl,d⟩;have s:=Z SJ d;have Zg:=Z a3 d;have SC:=Z a4 d;have Su:=Z Tp d;have R0:=Z P d;have R5:=Z H d;have RD:=ac V d;have q:=aO ZP d;have Yi:=Z bo d;clear SJ a3 a4 Tp P H V ZP bo;clear d;refine u _ _ ⟨SC,Yi⟩ λ_=>?_
 clear u;refine L ?_;refine ar T (λK' u=>?_);rw[jv aj];refine jE 64 _ _ T (t+1+1+1+1+1) SA T T 64 _ R5.out ed hZ hD ?_;refine u _ _ ⟨(jy _ _ _ _ Y).trans SC,(jy _ _ _ _ (aA VL)).trans Yi⟩ λ_=>?_
 clear u;have c:jc ((y1.setRow (t+1+1+1+1+1) SA).heap[t]?=jb (jd al 29 (0,0))):=O ((jy _ _ _ _ (by first|omega|(have:=VL.out;omega))).trans s);have D:jc ((y1.setRow (t+1+1+1+1+1) SA).heap[t+1]?=jb (jd RP 64 (0,0))):=O ((jy _ _ _ _ (by first|omega|(have:=VL.out;omega))).trans Zg);have M:jc ((y1.setRow (t+1+1+1+1+1) SA).heap[t+1+1]?=jb (jd IX 64 (0,0))):=O ((jy _ _ _ _ (by first|omega|(have:=VL.out;omega))).trans SC);have Q:jc ((y1.setRow (t+1+1+1+1+1) SA).heap[t+1+1+1]?=jb (jd S 64 (0,0))):=O ((jy _ _ _ _ (by first|omega|(have:=VL.out;omega))).trans Su);have YZ:jc ((y1.setRow (t+1+1+1+1+1) SA).heap[(t+1+1+1+1)]?=jb (jd RR 63 (0,0))):=O ((jy _ _ _ _ (by first|omega|(have:=VL.out;omega))).trans R0);have Y5:jc ((y1.setRow (t+1+1+1+1+1) SA).heap[(t+1+1+1+1+1)]?=jb (jd SA 64 (0,0))):=O (j6 _ _ _ _ _ _ R5.out);have Y4:jc (jm w w (y1.setRow (t+1+1+1+1+1) SA)):=O (nz RD.out (by rw[HG];omega) _);have ad:=O (mh (w':=(y1.setRow (t+1+1+1+1+1) SA)) q (λk hk=>jy _ _ _ _ (aA ds)));have a5:jc ((y1.setRow (t+1+1+1+1+1) SA).heap[gl]?=jb (jd LC 64 (0,0))):=O ((jy _ _ _ _ (by first|omega|(have:=VL.out;omega))).trans Yi);generalize(y1.setRow (t+1+1+1+1+1) SA)=y9 at c D M Q YZ Y5 Y4 ad a5⊢;clear s Zg SC Su R0 R5 RD q Yi;have Uu:=c;clear c;have bh:=D;clear D;have bk:=M;clear M;have bf:=Q;clear Q;have UH:=YZ;clear YZ;have Vl:=Y5;clear Y5;have S6:=Y4;clear Y4;have bg:=ad;clear ad;have ba:=a5;clear a5;refine L ?_;refine jL ?_;have bw:jc ((jl.info? 23).map (·.size)=jb (g.last.map v8).length):=O (by rw[jw,UB];kernel_rfl);obtain⟨DL,bl⟩:=J ((g.last.map v8).toArray);have Uf:=O bl;have hE:jc (ql.wrap (ep+1)=ep+1):=O (by rw[qv];omega);have bA:jc (DL.size=32):=O (by rw[bl,jD,jw,UB]);clear bl
 go_upto_region 15 with fail
 refine jO ?_;refine bY (λF=>F.heap[t]?=jb (jd al 29 (0,0))) (.t 0 (.t 1 (.t 2 (.t 3 (.t 4 (.t 5 (.t 6 (.t 7 (.t 8 (.o 9 (.t 10 (.o 11 .done)))))))))))) ag ag ag G (λ_ _ _ _ h=>h) Uu ?_;obtain⟨z0,RQ⟩:=J y9.drew;have d:=bz y9;rw[<-RQ]at d⊢;have Yq:=Z Uu d;have bb:=Z bh d;have bc:=Z bk d;have bu:=Z bf d;have Uz:=Z UH d;have UA:=Z Vl d;have TR:=ac S6 d;have bd:=aO bg d;have ca:=Z ba d;clear d RQ Uu bh bk bf UH Vl S6 bg ba;have SJ:=Yq;clear Yq;have a3:=bb;clear bb;have a4:=bc;clear bc;have Tp:=bu;clear bu;have P:=Uz;clear Uz;have H:=UA;clear UA;have V:=TR;clear TR;have ZP:=bd;clear bd;have bo:=ca;clear ca;iterate 6 (refine aE (v:=?_) T aj (λF U=>?_) ?_;rotate_left;(have b0:=ae U cj.1;have b1:=ae U cj.2;go_simp;with_reducible rfl);refine L ?_)
 (refine aE (v:=jk DL) T aj (λF U=>by rw[Uf];exact oD n0 T bw T T (hP F t U)) ?_;refine L ?_)
 iterate 2 (refine aE (v:=?_) T aj (λF U=>?_) ?_;rotate_left;(have b0:=ae U cj.1;have b1:=ae U cj.2;go_simp;with_reducible rfl);refine L ?_)
 refine ar T (λK' u=>?_);go_simp;refine(Gb m _ z0 ((EK.At.of_sl (E:=EC) dd).below V) gb).mono ?_;rintro e z1 ⟨aa,rfl,hu,d⟩;obtain⟨EE,bb⟩:=J z0.heap.size;rw[<-bb]at hu;have ck:jc (t+6<=EE):=O (by have h5:=(js.1 H).1;omega);clear bb;have VM:=O hu;clear hu;obtain⟨TA,c1,rfl⟩:=a8 VM;obtain⟨X0,bc⟩:∃y:ju jj,y= #[I N fd,I N (ep+1)]++DL++ #[I N a,A TA m.length c1,A ja 0 0,A ja 0 0,A ja 0 0]++(dC.map v8).toArray++ #[I N 0,I N 0]:=⟨_,T⟩;have Ya:=O bc;have bb:X0=(av (bG g a m z) ⟨A TA m.length c1,A ja 0 0,A ja 0 0,A ja 0 0⟩).toArray:=by rw[bc,Uf,hR,Uy];unfold av bG;simp
 have bl:=O bb;have bB:jc ((jl.info? 63).map (·.size)=jb X0.size):=O (by rw[bb,jD,fa _ _ UB.out dT];exact fN);have bC:jc (X0.all (·.oneCell')=jp):=O (by rw[bb];exact nh _ _ _ _ _ _ _ _ _ _ _ _ _);have bK:jc (RR.size=X0.size):=O (by rw[bb,<-Zn,jD,jD,fa (bG g a m z) _ UB.out dT,fa eR fX dT dT]);clear bc bb;have s:=Z SJ d;have Zg:=Z a3 d;have SC:=Z a4 d;have Su:=Z Tp d;have R0:=Z P d;have R5:=Z H d;have RD:=ac V d;have q:=aO ZP d;have Yi:=Z bo d;clear SJ a3 a4 Tp P H V ZP bo;clear d;refine u _ _ s.out λ_=>?_
 clear u;refine L ?_
 (refine aE (v:=jk X0) T aj (λF U=>by rw[Ya];exact JL (f:=fd) (e:=ep+1) (au:=a) bA T (by simp only[qi,List.map_cons,ow,Act.eval,Array.getD_eq_getD_getElem?];simp;exact hE) F) ?_;refine L ?_)
 refine ar T (λK' u=>?_);rw[jv aj];refine jE 63 _ _ T (t+1+1+1+1) X0 T T 63 _ R0.out bB bK bC ?_;refine u _ _ ((jy _ _ _ _ Y).trans s) λ_=>?_
 clear u;have a3:jc ((z1.setRow (t+1+1+1+1) X0).ownsRow EE 47 5 (A TA m.length c1) m.length (m.flatMap ak.cells)):=O (mh VM (λk hk=>jy _ _ _ _ (aA ck)));have c:jc ((z1.setRow (t+1+1+1+1) X0).heap[t]?=jb (jd al 29 (0,0))):=O ((jy _ _ _ _ (by first|omega|(have:=VL.out;omega))).trans s);have D:jc ((z1.setRow (t+1+1+1+1) X0).heap[t+1]?=jb (jd RP 64 (0,0))):=O ((jy _ _ _ _ (by first|omega|(have:=VL.out;omega))).trans Zg);have M:jc ((z1.setRow (t+1+1+1+1) X0).heap[t+1+1]?=jb (jd IX 64 (0,0))):=O ((jy _ _ _ _ (by first|omega|(have:=VL.out;omega))).trans SC);have Q:jc ((z1.setRow (t+1+1+1+1) X0).heap[t+1+1+1]?=jb (jd S 64 (0,0))):=O ((jy _ _ _ _ (by first|omega|(have:=VL.out;omega))).trans Su);have YZ:jc ((z1.setRow (t+1+1+1+1) X0).heap[(t+1+1+1+1)]?=jb (jd X0 63 (0,0))):=O (j6 _ _ _ _ _ _ R0.out);have Y5:jc ((z1.setRow (t+1+1+1+1) X0).heap[(t+1+1+1+1+1)]?=jb (jd SA 64 (0,0))):=O ((jy _ _ _ _ (by first|omega|(have:=VL.out;omega))).trans R5);have Y4:jc (jm w w (z1.setRow (t+1+1+1+1) X0)):=O (nz RD.out (by rw[HG];omega) _);have ad:=O (mh (w':=(z1.setRow (t+1+1+1+1) X0)) q (λk hk=>jy _ _ _ _ (aA ds)));have a5:jc ((z1.setRow (t+1+1+1+1) X0).heap[gl]?=jb (jd LC 64 (0,0))):=O ((jy _ _ _ _ (by first|omega|(have:=VL.out;omega))).trans Yi);generalize(z1.setRow (t+1+1+1+1) X0)=z9 at c D M Q YZ Y5 Y4 ad a5 a3⊢;clear s Zg SC Su R0 R5 RD q Yi;have Uu:=c;clear c;have bh:=D;clear D;have bk:=M;clear M;have bf:=Q;clear Q;have UH:=YZ;clear YZ;have Vl:=Y5;clear Y5;have S6:=Y4;clear Y4;have bg:=ad;clear ad;have ba:=a5;clear a5;clear VM;have bb:=a3;clear a3;refine L ?_;refine jL ?_;obtain⟨M,c⟩:=J z9.heap.size;have SS:jc ((t+1+1+1+1)<M):=O (by rw[c];exact(js.1 UH).1);have eg:jc (gl<M):=O (by rw[c];exact(js.1 ba).1);have YV:=O c;have ej:jc ((t+1+1+1+1+1)<M):=O (by rw[c];exact(js.1 Vl).1);have bc:jc (∀aa v,((λv=>(av (bG g a m z) ⟨A TA m.length c1,v,A ja 0 0,A ja 0 0⟩).toArray) aa).setIfInBounds 36 v=(λv=>(av (bG g a m z) ⟨A TA m.length c1,v,A ja 0 0,A ja 0 0⟩).toArray) v):=O (λaa v=>Fq (bG g a m z) _ _ _ _ _ UB.out);have D:jc (dy M (t+1+1+1+1) 63 3 1 (λv=>(av (bG g a m z) ⟨A TA m.length c1,v,A ja 0 0,A ja 0 0⟩).toArray) z9 z9 0 (A ja 0 0) (((dL z).take 0).map (jS .i64))):=O ⟨by have h:=UH.out;rw[bl]at h;exact h,qw _ _ _ _,aM.refl _ _ _,jR c⟩;have h0:jc (∀w,(Instr.alloc 64 jp (j8 #[])).run jl w=.ok (jC (jb ⟨w,0,ja⟩)) (w.alloc (jd K 64))):=O (λw=>by rw[<-b5];kernel_rfl);clear c;rw[hE]
 go_upto_region 16 with fail
 go_wp2_with fail
 go_loopw [91] (λv wr=>∃(i:jf) (pv:jB jN) (cv:jf),v=I N i/\i<=10/\jc (dy M (t+1+1+1+1) 63 3 1 (λv=>(av (bG g a m z) ⟨A TA m.length c1,v,A ja 0 0,A ja 0 0⟩).toArray) z9 wr i (A pv i cv) (((dL z).take i).map (jS .i64)))) (λv _=>10-(jK v).toNat)
 case atStart=>exact⟨0,ja,0,T,jX _,D⟩
 clear D;obtain⟨i,pv,cv,rfl,hi,Sj⟩:=hrel
 by_cases bI:i<10
 ·have hd:=ao ((i:jh)<10)
  have Sm:=ao (i<10);have hq:(i:jh)<10:=Y;obtain⟨c,D⟩:=J (((cG z i).map v8).toArray);have bO:=O D;have a5:jc ((jl.info? 64).map (·.size)=jb c.size):=O (by rw[D,jD,jw,eQ z Ti];kernel_rfl);have bT:jc (K.size=c.size):=O (by rw[D,<-b5,jD,jw,jD,jw,eQ z Ti,dT]);have b0:jc (c.all (·.oneCell')=jp):=O (by rw[D];exact ee _);have b1:jc ((jl.info? 64).map (·.size)=jb ((cG z i).map v8).length):=O (by rw[jw,eQ z Ti];kernel_rfl);have b2:jc (∀W,gy W->jr jl 44 #[jk c] W λe w'=>e=jq (I N (mx (cG z i):jf))/\jm W W w'):=O (by rw[D];exact λW hW=>QI _ (eQ z Ti i) W hW);have bd:jc (wr.heap[gl]?=jb (jd LC 64 (0,0))):=O ((Sj.but.block gl eg (aA VL)).trans ba);have Q:jc (wr.rangeAt gl (i*32) ((cG z i).map v8)):=O (sa bd (λj aa hj=>gm i j aa bI hj));have SR:jc (jm w w wr):=O (S6.trans (Sj.but.below (n:=w.heap.size) (by rw[HG];omega) (eF SS HG)));clear D
  go_upto_region 18 with fail
  refine j0 ?_;refine bH ?_;refine k8 aj λ_ u=>wp_load_mid 64 _ T _ _ T ((cG z i).map v8) _ (by first|exact Q|simpa using Q.out) jI T b1 (u _ _ ?_)
  rw[<-bO];refine jJ T λ_ u=>gL 64 T K h0 (u _ _ ?_)
  refine jJ T λ_ u=>jE 64 _ _ T wr.heap.size c T T 64 K (jt wr _) a5 bT b0 (u _ _ ?_)
  have a3:((wr.alloc (jd K 64)).setRow wr.heap.size c).heap[wr.heap.size]?=jb (jd c 64 (0,0)):=j6 _ _ _ _ _ _ (jt wr _);have d:jm wr wr ((wr.alloc (jd K 64)).setRow wr.heap.size c):=mP (ai wr _) (jn _) _;obtain⟨k0,Un⟩:=J ((wr.alloc (jd K 64)).setRow wr.heap.size c);obtain⟨b3,D⟩:=J wr.heap.size;rw[<-Un,<-D]at a3;rw[<-Un]at d⊢;rw[<-D]at⊢;have a4:=O (Sj.later (aA SS) d);have ad:=O a3;have V:jc (jm w w k0):=ac SR d;clear a3 d Un D Sj SR bd Q
  go_upto_region 19 with fail
  refine j0 ?_;refine jQ T 64 _ T b3 T 64 c (0,0) _ ad.out jI T a5 ?_
  go_wp2_with fail
  refine(b2 k0 (SP.below V)).mono ?_;rintro e k1 ⟨rfl,d⟩;have bM:=O (a4.later SS d);have bN:=Z ad d;have RD:=ac V d;clear a4 ad V;clear d
  go_wp2_with fail
  refine(tI (mx (cG z i)) (BZ _).1 (BZ _).2 k1).mono ?_;rintro e D ⟨rfl,d⟩;have Q:=O (bM.later SS d);have b4:=Z bN d;have RE:=ac RD d;clear bM bN RD;clear d;obtain⟨pp,ad⟩:∃y:jh,y=((aR 4 (mx (cG z i)):jf):jh):=⟨_,T⟩;rw[<-ad];have bM:=O ad;clear ad;have WY:=ae Q.box (show((λv=>(av (bG g a m z) ⟨A TA m.length c1,v,A ja 0 0,A ja 0 0⟩).toArray) (A pv i cv))[36]?=jb (A pv i cv) by have h:=(fk (bG g a m z) ⟨A TA m.length c1,A pv i cv,A ja 0 0,A ja 0 0⟩ UB dT).2.2.2.2.1;simpa using h);have ad:((λv=>(av (bG g a m z) ⟨A TA m.length c1,v,A ja 0 0,A ja 0 0⟩).toArray) (A pv i cv)).size=73:=by rw[jD,fa _ _ UB.out dT]
  have bN:=O ad;clear ad
  go_wp2_with (at_builtin;refine Hid.out ?_)
  refine O ?_;refine jJ T λ_ u=>FZ _ _ T M (A pv i cv) i _ T (dx Q.own (ai D _)) _ 1 [I N pp] T (eU D [I N pp] 3 (0,0) 1 1 1 T (jn _)) (by simp[jH]) Y (jA Q.sz' (ai D _).size) λv' k9 Sd=>u _ _ ?_
  clear u;have a4:dy M (t+1+1+1+1) 63 3 1 (λv=>(av (bG g a m z) ⟨A TA m.length c1,v,A ja 0 0,A ja 0 0⟩).toArray) z9 (D.alloc (jd #[I N pp] 3)) i (A pv i cv) (((dL z).take i).map (jS .i64)):=Q.later (aA SS) (ai D _);have Tx:=eP a4.box Sd.grown (cJ a4.own (.inr SS));obtain⟨pn,cn,rfl⟩:=a8 Sd.own;have Tl:jc (dy M (t+1+1+1+1) 63 3 1 (λv=>(av (bG g a m z) ⟨A TA m.length c1,v,A ja 0 0,A ja 0 0⟩).toArray) z9 (k9.setCell ⟨(t+1+1+1+1),36,ja⟩ (A pn (i+1) cn)) (i+1) (A pn (i+1) cn) (((dL z).take (i+1)).map (jS .i64))):=O (by
   have h:=a4.push (i:=36) SS Sd (bc _ _);rw[Ny z i bI,lw,List.map_cons,ow,<-bM];exact h)
  obtain⟨⟨vo,c3⟩,f3,-,-⟩:=cE (i:=36) (A pn (i+1) cn) Tx (by rw[bN];decide);clear a4 Sd Tx WY
  go_wp2_with fail
  go_roundw
  case rel=>exact⟨i+1,pn,cn,by go_num,by omega,Tl⟩
  case measure=>simp only[jK];omega
 obtain rfl:i=10:=Y;have hd:decide ((10:jh)<10)=jo:=by decide
 have Sm:decide (10<10)=jo:=by decide
 rename jg=>p1;have cc:(dL z).take 10=dL z:=j5 (by rw[kD];exact jn _);rw[cc]at Sj;have c:(dL z).length=10:=kD z;have s:jc (p1.heap[t]?=jb (jd al 29 (0,0))):=O ((Sj.but.block (t) (by first|(have:=SS.out;omega)|(have:=ej.out;omega)|(have:=eg.out;omega)) (by first|omega|(have:=VL.out;omega))).trans Uu);have Su:jc (p1.heap[t+1+1+1]?=jb (jd S 64 (0,0))):=O ((Sj.but.block (t+1+1+1) (by first|(have:=SS.out;omega)|(have:=ej.out;omega)|(have:=eg.out;omega)) (by first|omega|(have:=VL.out;omega))).trans bf);have R5:jc (p1.heap[(t+1+1+1+1+1)]?=jb (jd SA 64 (0,0))):=O ((Sj.but.block (t+1+1+1+1+1) (by first|(have:=SS.out;omega)|(have:=ej.out;omega)|(have:=eg.out;omega)) (by first|omega|(have:=VL.out;omega))).trans Vl);have Yi:jc (p1.heap[gl]?=jb (jd LC 64 (0,0))):=O ((Sj.but.block (gl) (by first|(have:=SS.out;omega)|(have:=ej.out;omega)|(have:=eg.out;omega)) (by first|omega|(have:=VL.out;omega))).trans ba);have R0:jc (p1.heap[(t+1+1+1+1)]?=jb (jd ((λv=>(av (bG g a m z) ⟨A TA m.length c1,v,A ja 0 0,A ja 0 0⟩).toArray) (A pv 10 cv)) 63 (0,0))):=O Sj.box;have RD:jc (jm w w p1):=O (S6.trans (Sj.but.below (n:=w.heap.size) (by rw[HG];omega) (eF SS HG)));have VM:jc (p1.ownsRow EE 47 5 (A TA m.length c1) m.length (m.flatMap ak.cells)):=O (iK bb (λk a5 ad=>Sj.but.block k (by rw[YV];exact ad) (aA ck)));have q:=O (iK bg (λk a5 ad=>Sj.but.block k (by rw[YV];exact ad) (aA ds)));have D:jc (M<=p1.heap.size):=O Sj.sz';have Yk:jc (p1.ownsRow M 3 1 (A pv 10 cv) 10 ((dL z).map (jS .i64))):=O Sj.own;clear cc c Sj bI hi bg Uu bh bk bf UH Vl S6 ba bb bc bq bm bs br bv Uf bw Ya bB bC bK bl bA;obtain⟨pq,cq,h4,h5⟩:∃(p:jB jN) (c:jf),p=pv/\c=cv:=⟨_,_,T,T⟩;subst h4;subst h5
 go_upto_region 22 with fail
 refine j0 ?_;refine jQ T 29 _ T t T 29 al (0,0) _ s.out qo T Uk ?_;have Q:jc (M<=p1.heap.size):=D;clear s D
 go_wp2_with fail
 refine(Yr p1 WI (gp.below RD) ((EK.At.of_sl (E:=EC) dd).below RD)).mono ?_;rintro e pm ⟨u1,rfl,hu,d⟩;have s:=O hu;clear hu;obtain⟨pt,nt,ct,rfl⟩:=iW s;have D:jc (M<=pm.heap.size):=O (jA Q d.size);have ba:=Z Su d;have bb:=Z R5 d;have bc:=Z Yi d;have bf:=Z R0 d;have bg:=ac RD d;have bh:=aO VM d;have bk:=aO Yk d;have bl:=aO q d;clear Su R5 Yi R0 RD VM Yk q;clear d;clear Q
 go_upto_region 23 with fail
 have d:=ai pm (jd #[A pt nt ct] 27);have Q:=jt pm (jd #[A pt nt ct] 27);obtain⟨p2,C⟩:=J (pm.alloc (jd #[A pt nt ct] 27));rw[<-C]at d Q⊢;obtain⟨bt,hg⟩:=J pm.heap.size;rw[<-hg]at Q⊢;have q:=O hg;have R7:=Z ba d;have Se:=Z bb d;have bq:=Z bc d;have R3:=Z bf d;have RE:=ac bg d;have Yh:=aO bh d;have Yl:=aO bk d;have ea:=aO bl d;have bv:=O (s.below d);clear ba bb bc bf bg bh bk bl s;have s:=O Q;clear Q C d hg;have h6:jc (M<=bt):=O (by rw[q];exact D);have g1:=s;clear s D q;obtain⟨M2,q⟩:=J p2.heap.size;have ba:jc ((t+1+1+1+1)<M2):=O (by rw[q];exact(js.1 R3).1);have hF:jc ((t+1+1+1+1+1)<M2):=O (by rw[q];exact(js.1 Se).1);have hH:jc (gl<M2):=O (by rw[q];exact(js.1 bq).1);have hI:jc (bt<M2):=O (by rw[q];exact(js.1 g1).1);have hJ:jc (bt≠(t+1+1+1+1)):=O (eF h6 SS);have Ta:=O q;have hK:jc (∀aa v,((λv=>(av (bG g a m z) ⟨A TA m.length c1,A pq 10 cq,v,A ja 0 0⟩).toArray) aa).setIfInBounds 37 v=(λv=>(av (bG g a m z) ⟨A TA m.length c1,A pq 10 cq,v,A ja 0 0⟩).toArray) v):=O (λaa v=>vW (bG g a m z) _ _ _ _ _ UB.out);obtain⟨nl,s⟩:=J (dj g a m);have Zf:=O s;have Zk:jc (nu=nl.length):=O (by rw[s];exact hB);have hM:jc (nu<=511):=O (by rw[hB,T9];exact vD _ WR.1 WR.2);have h7:=O (kJ m _ (ib Zi.tree) (nj Zi WI gv)).1;have D:jc (cP M2 (t+1+1+1+1) 63 54 4 Bx.cells Bx.body (λv=>(av (bG g a m z) ⟨A TA m.length c1,A pq 10 cq,v,A ja 0 0⟩).toArray) p2 p2 0 (A ja 0 0) ((nl.take 0).map (eN g a m z seed)) []):=O (cP.start R3 (jR q));clear q s
 go_upto_region 23 with fail
 go_wp2_with fail
 go_loopw [113] (λv wr=>∃(i:jf) (pv:jB jN) (cv:jf) (us:ji jj),v=I N i/\i<=nu/\jc (cP M2 (t+1+1+1+1) 63 54 4 Bx.cells Bx.body (λv=>(av (bG g a m z) ⟨A TA m.length c1,A pq 10 cq,v,A ja 0 0⟩).toArray) p2 wr i (A pv i cv) ((nl.take i).map (eN g a m z seed)) us)) (λv _=>nu-(jK v).toNat)
 case atStart=>exact⟨0,ja,0,[],T,jX _,D⟩
 clear D;obtain⟨i,pv,cv,us,rfl,hi,Sj⟩:=hrel;have db:=hM.out
 by_cases bI:i<nu
 ·have hd:=ao ((i:jh)<(nu:jh))
  have Sm:=ao (i<nu);have hq:(i:jh)<(nu:jh):=Y;have SR:jc (jm w w wr):=O (RE.trans (Sj.row.but.below (n:=w.heap.size) (by rw[HG];omega) (eF ba HG)));have Va:=Sj.row.but;have D:=O (iK ea (λk a5 ad=>Va.block k (by rw[Ta];exact ad) (aA ds)));have ek:=O (iK Yh (λk a5 ad=>Va.block k (by rw[Ta];exact ad) (aA ck)));have em:=O (iK Yl (λk a5 ad=>Va.block k (by rw[Ta];exact ad) (aA SS)));have bg:jc (bp wr (A pt nt ct) (aV g.tree m)):=O (Km bv (j:=37) R3 Sj.row.box (λk hk hn=>Va.block k (by rw[Ta];exact hk) hn) (λj hj=>J2 (bG g a m z) _ _ _ _ _ UB.out j hj) ⟨_,_,_,(lQ (bG g a m z) _ _ _ _ UB.out dT).2.1⟩);have eq:jc (wr.heap[t+1+1+1]?=jb (jd S 64 (0,0))):=O ((Va.block (t+1+1+1) (aA ba) Y).trans R7);have bd:jc (wr.heap[gl]?=jb (jd LC 64 (0,0))):=O ((Va.block gl hH (aA VL)).trans bq);have bm:jc (wr.heap[bt]?=jb (jd #[A pt nt ct] 27 (0,0))):=O ((Va.block bt hI hJ).trans g1);have SH:EB0.At wr (A pu nu hT) nl:=EK.At.of_own (E:=EB0) (B:=x0.heap.size) (by rw[<-Zk,Zf];exact D);obtain⟨-,-,SQ⟩:=SH.cells;obtain⟨g0,o,h8,br⟩:=SQ Y;subst h8;obtain⟨⟨kk,s⟩,C,Vu⟩:=dF (l:=nl) (j:=i) (by rw[<-Zk];exact bI);have d0:wr.cell? ⟨g0,o+i*4,ja⟩=jb (I N s):=br i _ C 0 _ T;have d1:wr.cell? ⟨g0,o+i*4+1,ja⟩=jb (I N kk):=br i _ C 1 _ T;have d2:wr.cell? ⟨g0,o+i*4+2,ja⟩=jb (I N 0):=br i _ C 2 _ T;have d3:wr.cell? ⟨g0,o+i*4+3,ja⟩=jb (A ja 0 0):=br i _ C 3 _ T;have cm:=o4 C;rw[Zf,T9]at cm;obtain⟨⟨a5,ad⟩,⟨a1,SY⟩,bb,cd⟩:=yS h7 WR.1 WR.2 cm;obtain⟨q,rfl⟩:=pz (show 0<=kk by omega);obtain⟨Tt,c7⟩:=pz (show 0<=(aN (aV g.tree m) s).getD 0 by have:=cd.1;omega);have h9:jc (zd (aV g.tree m) s=Tt):=O (by unfold zd;rw[c7];rfl);rw[c7]at cd;have g2:=O cd;have ic:jc (∀W,bp W (A pt nt ct) (aV g.tree m)->jr jl 45 #[jk #[A pt nt ct],I N s] W λe w'=>e=jq (j8 #[I N (Tt:jh),.bool jp])/\jm W W w'):=O (λW hW=>by
   have h:=Hg (aV g.tree m) _ s W hW (by have:=uF g.tree m;have:=Vq.out;have:=WI.len;omega) (aH.of Y);rw[c7,bb]at h;exact h)
  have T7:jc ((nl.take (i+1)).map (eN g a m z seed)=(nl.take i).map (eN g a m z seed)++[eN g a m z seed ((q:jh),s)]):=O (by rw[Vu,lw];rfl);have VG:jc (q<10/\1<=q):=O ⟨by omega,by omega⟩;have hN:jc (1<=s/\s<1024):=O ⟨a1,SY⟩;clear SH SQ br C Vu cm a5 ad a1 SY bb cd c7 D Va
  go_upto_region 26 with fail
  obtain⟨bb,UD⟩:=J wr.heap.size;have a3:=jt wr (jd #[I N s,I N (q:jh),I N 0,A ja 0 0] 54);have d:=ai wr (jd #[I N s,I N (q:jh),I N 0,A ja 0 0] 54);have cp:jc (M2<=bb):=O (by rw[UD];exact Sj.row.sz');have Uv:jc ((jU pv i cv).ownBlock≠jb bb):=O (cJ Sj.row.own (.inl (jR UD.symm)));rw[<-UD]at a3⊢;obtain⟨k0,Un⟩:=J (wr.alloc (jd #[I N s,I N (q:jh),I N 0,A ja 0 0] 54));rw[<-Un]at a3 d⊢;have bh:=O d;have bc:=O (az Sj.row.box d);have bf:=O a3;have V:=ac SR d;have bk:=aO ek d;have bl:=aO em d;have b0:=O (bg.below d);have Tp:=Z eq d;have bo:=Z bd d;have D:=Z bm d;have ev:jc (wr.heap.size=bb):=O UD.symm;clear a3 d Un UD SR ek em bg eq bd bm d0 d1 d2 d3;have e0:=ae (i:=0) bf T
  go_upto_region 26 with fail
  refine j0 ?_;refine jQ T 27 _ T bt T 27 #[A pt nt ct] (0,0) _ D.out underlying27 T oW ?_
  go_wp2_with fail
  refine(ic k0 b0).mono ?_;rintro e k1 ⟨rfl,d⟩;have Zo:=ac bh d;have Wt:=Z bc d;have YF:=Z bf d;have RD:=ac V d;have VM:=aO bk d;have Yk:=aO bl d;have bC:=O (b0.below d);have Su:=Z Tp d;have Yi:=Z bo d;clear bh bc bf V bk bl b0 Tp bo;clear d e0 D;have ZS:jc (k1.cell? ⟨bb,0,ja⟩=jb (I N s)/\k1.cell? ⟨bb,1,ja⟩=jb (I N (q:jh))):=O ⟨ae YF T,ae YF T⟩;obtain⟨ex,bK⟩:=J (fi seed nL [(q:jh),s]);have ew:ex.length=32:=by rw[bK];exact oA _ _ _
  obtain⟨EX,cs⟩:=J ((ex.map v8).toArray);obtain⟨bM,bN⟩:=J (nf (bG g a m z) nL [(q:jh),s]);obtain⟨u0,cu⟩:∃y:jh,y=((aR 4 (kY ex):jf):jh):=⟨_,T⟩;obtain⟨bd,bO⟩:=J (gO Tt ex bM (cG z q));have g3:jc (bd.length=48):=O (by rw[bO,mA,eQ z Ti]);have bT:jc (∀W v,cV W v [(q:jh),s]->da W->jr jl 47 #[jk S,je ⟨#[98,111,120]⟩,v] W λe w'=>e=jq (jk EX)/\jm W W w'):=O (λW v hv hW=>by
   rw[hx,cs,bK];exact pM seed ht nL [(q:jh),s] v W hv (EO G (by have:=hN.out;have:=VG.out;intro x C;simp at C;rcases C with rfl|rfl<;>exact⟨by omega,by omega⟩) ax) hW)
  have ez:jc (∀W v TC,aF (·<W.heap.size) W {bG g a m z with box:=TC} ⟨A TA m.length c1,A pq 10 cq,A pv i cv,A ja 0 0⟩->TC.length<=1000000->cV W v [(q:jh),s]->da W->jr jl 48 #[jk ((λv=>(av (bG g a m z) ⟨A TA m.length c1,A pq 10 cq,v,A ja 0 0⟩).toArray) (A pv i cv)),je ⟨#[98,111,120]⟩,v] W λe w'=>∃D,e=jq (A (jb ⟨D,0,ja⟩) 32 32)/\aP w' (A (jb ⟨D,0,ja⟩) 32 32) bM/\jm W W w'):=O (λW v TC hC hu hv hW=>by
   rw[bN];exact Cj {bG g a m z with box:=TC} _ nL [(q:jh),s] v W G hC hv ax ⟨gb,by show(dL z).length<=_;rw[kD];decide,hu,jX _⟩
    (BD (c:={bG g a m z with box:=TC}) (nums:=[(q:jh),s]) (by have h1:=Zi.fol.1;have h2:=Zi.fol.2;exact⟨by show _ <=g.folder;omega,by show g.folder<_;omega⟩) (by have h1:=Zi.ep;exact⟨by show _ <=g.epoch+1;omega,by show g.epoch+1<_;omega⟩) (by have:=WR.out;exact⟨by show _ <=a;omega,by show a<_;omega⟩) UB (by have:=hN.out;have:=VG.out;intro x C;simp at C;rcases C with rfl|rfl<;>exact⟨by omega,by omega⟩) ax) hW)
  have e1:jc (∀W vh vb,aP W vh bM->aP W vb (cG z q)->kr W->jr jl 46 #[I N (Tt:jh),jk EX,vh,vb] W λe w'=>∃c,e=jq (j8 #[jk #[I N u0,c],I N 0])/\w'.ownsRow W 5 1 c 48 (bd.map v8)/\jm W W w'):=O (λW vh vb h1 h2 h3=>by
   have h:=FA Tt g2 ex bM (cG z q) ew (by rw[bN];unfold nf;rw[et];decide) (by rw[eQ z Ti];decide) vh vb W h1 h2 h3;rw[eQ z Ti]at h;rw[cs,cu,bO];exact h)
  have SF:jc (eN g a m z seed ((q:jh),s)=⟨s,(q:jh),u0,bd⟩):=O (by rw[bO,cu,bN,bK,<-h9];rfl);have ih:jc ((jl.info? 63).map (·.size)=jb ((λv=>(av (bG g a m z) ⟨A TA m.length c1,A pq 10 cq,v,A ja 0 0⟩).toArray) (A pv i cv)).size):=O (by rw[jD,fa _ _ UB.out dT];exact fN);have ka:decide ((q:jh)<10)=jp:=by have:=VG.out;simp;omega
  have ki:(q:jh)<10:=aA VG;have ii:q<10:=aA VG;clear ew cs bN cu bO bK
  go_upto_region 27 with fail
  refine jO ?_;refine bY (λF=>(F.cell? ⟨bb,0,ja⟩=jb (I N s)/\F.cell? ⟨bb,1,ja⟩=jb (I N (q:jh)))/\F.heap[t+1+1+1]?=jb (jd S 64 (0,0))/\F.heap[(t+1+1+1+1)]?=jb (jd ((λv=>(av (bG g a m z) ⟨A TA m.length c1,A pq 10 cq,v,A ja 0 0⟩).toArray) (A pv i cv)) 63 (0,0))) (.t 0 (.t 1 (.t 2 (.t 3 (.t 4 (.t 5 (.t 8 (.t 9 (.t 10 (.t 11 (.t 12 (.t 15 (.t 16 (.t 17 (.t 18 (.t 19 (.w 6 13 (.w 7 13 (.o 13 (.o 14 (.o 20 (.t 21 (.t 22 (.t 23 (.t 24 (.o 25 .done)))))))) (.o 7 (.o 14 (.o 20 (.t 21 (.t 22 (.t 23 (.t 24 (.o 25 .done))))))))) (.o 6 (.o 7 (.o 14 (.o 20 (.t 21 (.t 22 (.t 23 (.t 24 (.o 25 .done)))))))))))))))))))))))))) ag ag ag G (λ_ _ _ _ h=>h) ⟨ZS,Su,Wt⟩ ?_;obtain⟨l0,RQ⟩:=J k1.drew;have d:=bz k1;rw[<-RQ]at d⊢;have e2:=ac Zo d;have e3:=Z Wt d;have e4:=Z YF d;have TR:=ac RD d;have e5:=aO VM d;have e6:=aO Yk d;have bg:=O (bC.below d);have bu:=Z Su d;have ca:=Z Yi d;have bm:=O (And.intro (aB ZS.1 d) (aB ZS.2 d));clear d RQ Zo Wt YF RD VM Yk bC Su Yi ZS;have bh:=e2;clear e2;have bc:=e3;clear e3;have bf:=e4;clear e4;have V:=TR;clear TR;have bk:=e5;clear e5;have bl:=e6;clear e6;have b0:=bg;clear bg;have Tp:=bu;clear bu;have bo:=ca;clear ca;have b1:=bm;clear bm;refine uI ?_
  (refine aE (v:=jk S) T aj (λF U=>cI jI T hr T T U.2.1) (L ?_))
  iterate 4 refine uI ?_
  (refine aE (v:=jk ((λv=>(av (bG g a m z) ⟨A TA m.length c1,A pq 10 cq,v,A ja 0 0⟩).toArray) (A pv i cv))) T aj (λF U=>cI jP T ih T T U.2.2) (L ?_))
  iterate 9 refine uI ?_
  apply DD (.o 14 (.o 20 (.t 21 (.t 22 (.t 23 (.t 24 (.o 25 .done)))))))
  rotate_left
  ·intro Vj
   refine gM ?_ ?_
   ·refine ar T (λK' u=>?_)
    go_simp;have d:=ai l0 (jd #[I N (q:jh),I N s] 3);have Q:=lc l0 (q:jh) s;obtain⟨l1,C⟩:=J (l0.alloc (jd #[I N (q:jh),I N s] 3));rw[<-C]at d Q⊢;obtain⟨bw,hg⟩:=J l0.heap.size;rw[<-hg]at Q⊢;clear hg;have Zo:=ac bh d;have Wt:=Z bc d;have YF:=Z bf d;have RD:=ac V d;have VM:=aO bk d;have Yk:=aO bl d;have bC:=O (b0.below d);have Su:=Z Tp d;have Yi:=Z bo d;have ZS:=O (And.intro (aB b1.1 d) (aB b1.2 d));have bA:=O Q;clear Q C d;refine u _ _ ⟨ZS,Su,Wt⟩ λ_=>?_
    clear u;refine L ?_;refine gM ?_ ?_
    ·refine ar T (λK' u=>?_)
     go_simp;refine(bT l1 _ bA.out (SP.dig.below RD)).mono ?_;rintro e l2 ⟨rfl,d⟩;have Ux:=ac Zo d;have Wr:=Z Wt d;have ZR:=Z YF d;have RE:=ac RD d;have Yh:=aO VM d;have Yl:=aO Yk d;have bv:=O (bC.below d);have R7:=Z Su d;have bq:=Z Yi d;have bg:=O (And.intro (aB ZS.1 d) (aB ZS.2 d));have Yj:=O (dS bA d);clear Zo Wt YF RD VM Yk bC Su Yi ZS bA;clear d;refine u _ _ ⟨bg,R7,Wr⟩ λ_=>?_
     clear u;refine L ?_;refine ar T (λK' u=>?_);go_simp;have d:=ai l2 (jd #[I N (q:jh),I N s] 3);have Q:=lc l2 (q:jh) s;obtain⟨l3,C⟩:=J (l2.alloc (jd #[I N (q:jh),I N s] 3));rw[<-C]at d Q⊢;obtain⟨bm,hg⟩:=J l2.heap.size;rw[<-hg]at Q⊢;clear hg;have VJ:=ac Ux d;have Ws:=Z Wr d;have ZQ:=Z ZR d;have RI:=ac RE d;have WM:=aO Yh d;have WL:=aO Yl d;have cb:=O (bv.below d);have Tf:=Z R7 d;have ce:=Z bq d;have bs:=O (And.intro (aB bg.1 d) (aB bg.2 d));have ZU:=O (dS Yj d);clear Ux Wr ZR RE Yh Yl bv R7 bq bg Yj;have Y6:=O Q;clear Q C d;refine u _ _ ⟨bs,Tf,Ws⟩ λ_=>?_
     clear u;refine L ?_;have hG:=(And.intro VJ (And.intro Ws (And.intro ZQ (And.intro RI (And.intro WM (And.intro WL (And.intro cb (And.intro Tf (And.intro ce (And.intro bs (And.intro ZU Y6)))))))))));exact Vj bw bm l3 hG
    refine ar T (λK' u=>?_);go_simp;have d:=ai l1 (jd #[I N (q:jh),I N s] 3);have Q:=lc l1 (q:jh) s;obtain⟨l2,C⟩:=J (l1.alloc (jd #[I N (q:jh),I N s] 3));rw[<-C]at d Q⊢;obtain⟨bm,hg⟩:=J l1.heap.size;rw[<-hg]at Q⊢;clear hg;have Ux:=ac Zo d;have Wr:=Z Wt d;have ZR:=Z YF d;have RE:=ac RD d;have Yh:=aO VM d;have Yl:=aO Yk d;have bv:=O (bC.below d);have R7:=Z Su d;have bq:=Z Yi d;have bg:=O (And.intro (aB ZS.1 d) (aB ZS.2 d));have Yj:=O (dS bA d);clear Zo Wt YF RD VM Yk bC Su Yi ZS bA;have bB:=O Q;clear Q C d;refine u _ _ ⟨bg,R7,Wr⟩ λ_=>?_
    clear u;refine L ?_;refine ar T (λK' u=>?_);go_simp;refine(bT l2 _ Yj.out (SP.dig.below RE)).mono ?_;rintro e l3 ⟨rfl,d⟩;have VJ:=ac Ux d;have Ws:=Z Wr d;have ZQ:=Z ZR d;have RI:=ac RE d;have WM:=aO Yh d;have WL:=aO Yl d;have cb:=O (bv.below d);have Tf:=Z R7 d;have ce:=Z bq d;have bs:=O (And.intro (aB bg.1 d) (aB bg.2 d));have ZU:=O (dS Yj d);have Y6:=O (dS bB d);clear Ux Wr ZR RE Yh Yl bv R7 bq bg Yj bB;clear d;refine u _ _ ⟨bs,Tf,Ws⟩ λ_=>?_
    clear u;refine L ?_;have hG:=(And.intro VJ (And.intro Ws (And.intro ZQ (And.intro RI (And.intro WM (And.intro WL (And.intro cb (And.intro Tf (And.intro ce (And.intro bs (And.intro ZU Y6)))))))))));exact Vj bw bm l3 hG
   refine ar T (λK' u=>?_);go_simp;have d:=ai l0 (jd #[I N (q:jh),I N s] 3);have Q:=lc l0 (q:jh) s;obtain⟨l1,C⟩:=J (l0.alloc (jd #[I N (q:jh),I N s] 3));rw[<-C]at d Q⊢;obtain⟨bm,hg⟩:=J l0.heap.size;rw[<-hg]at Q⊢;clear hg;have Zo:=ac bh d;have Wt:=Z bc d;have YF:=Z bf d;have RD:=ac V d;have VM:=aO bk d;have Yk:=aO bl d;have bC:=O (b0.below d);have Su:=Z Tp d;have Yi:=Z bo d;have ZS:=O (And.intro (aB b1.1 d) (aB b1.2 d));have e7:=O Q;clear Q C d;refine u _ _ ⟨ZS,Su,Wt⟩ λ_=>?_
   clear u;refine L ?_;refine ar T (λK' u=>?_);go_simp;have d:=ai l1 (jd #[I N (q:jh),I N s] 3);have Q:=lc l1 (q:jh) s;obtain⟨l2,C⟩:=J (l1.alloc (jd #[I N (q:jh),I N s] 3));rw[<-C]at d Q⊢;obtain⟨bw,hg⟩:=J l1.heap.size;rw[<-hg]at Q⊢;clear hg;have Ux:=ac Zo d;have Wr:=Z Wt d;have ZR:=Z YF d;have RE:=ac RD d;have Yh:=aO VM d;have Yl:=aO Yk d;have bv:=O (bC.below d);have R7:=Z Su d;have bq:=Z Yi d;have bg:=O (And.intro (aB ZS.1 d) (aB ZS.2 d));have bB:=O (dS e7 d);clear Zo Wt YF RD VM Yk bC Su Yi ZS e7;have Yj:=O Q;clear Q C d;refine u _ _ ⟨bg,R7,Wr⟩ λ_=>?_
   clear u;refine L ?_;refine ar T (λK' u=>?_);go_simp;refine(bT l2 _ Yj.out (SP.dig.below RE)).mono ?_;rintro e l3 ⟨rfl,d⟩;have VJ:=ac Ux d;have Ws:=Z Wr d;have ZQ:=Z ZR d;have RI:=ac RE d;have WM:=aO Yh d;have WL:=aO Yl d;have cb:=O (bv.below d);have Tf:=Z R7 d;have ce:=Z bq d;have bs:=O (And.intro (aB bg.1 d) (aB bg.2 d));have Y6:=O (dS bB d);have ZU:=O (dS Yj d);clear Ux Wr ZR RE Yh Yl bv R7 bq bg bB Yj;clear d;refine u _ _ ⟨bs,Tf,Ws⟩ λ_=>?_
   clear u;refine L ?_;have hG:=(And.intro VJ (And.intro Ws (And.intro ZQ (And.intro RI (And.intro WM (And.intro WL (And.intro cb (And.intro Tf (And.intro ce (And.intro bs (And.intro ZU Y6)))))))))));exact Vj bw bm l3 hG
  clear bh bc bf V bk bl b0 Tp bo b1;rintro bw bm l3 ⟨VJ,Ws,ZQ,RI,WM,WL,cb,Tf,ce,bs,ZU,Y6⟩;refine ar T (λK' u=>?_);go_simp;refine(ez l3 _ _ (Py UB WM WL (Sj.later ba VJ) (by rw[jw,kn];have:=Zk.out;omega)) (by rw[jw,kn];omega) Y6 (SP.dig.below RI)).mono ?_;rintro e l4 ⟨hO,rfl,cf,d⟩;have cw:=O cf;clear cf;have e8:=ac VJ d;have cx:=Z Ws d;have cy:=Z ZQ d;have RO:=ac RI d;have b0:=aO WM d;have b1:=aO WL d;have b4:=O (cb.below d);have TG:=Z Tf d;have b3:=Z ce d;have bg:=O (And.intro (aB bs.1 d) (aB bs.2 d));have e9:=O (dS ZU d);have fe:=O (dS Y6 d);clear VJ Ws ZQ RI WM WL cb Tf ce bs ZU Y6;clear d;refine u _ _ ⟨bg,TG,cx⟩ λ_=>?_
  clear u;refine L ?_;refine ar T (λK' u=>?_);go_simp;refine(e1 l4 _ _ cw.out (wU b3 (λj aa hj=>gm q j aa ii hj) (eQ z Ti q)) (hs.below RO)).mono ?_;rintro e l5 ⟨c,rfl,b2,d⟩;have S9:jc (bb<l4.heap.size):=O (js.1 cy).1;obtain⟨ip,g4⟩:=J l4.heap.size;rw[<-g4]at b2 S9;have fm:=O b2;obtain⟨pc,R,rfl⟩:=a8 b2;clear b2;have fo:=ac e8 d;have cz:=Z cx d;have cA:=Z cy d;have RX:=ac RO d;have c8:=aO b0 d;have c9:=aO b1 d;have i0:=O (b4.below d);have WS:=Z TG d;have ec:=Z b3 d;have fv:=O (And.intro (aB bg.1 d) (aB bg.2 d));have g5:=O (dS e9 d);have ha:=O (dS fe d);have hh:=O (cw.below d);clear e8 cx cy RO b0 b1 b4 TG b3 bg e9 fe cw;clear d;refine u _ _ ⟨fv,WS,cz⟩ λ_=>?_
  clear u;refine L ?_;iterate 4 refine uI ?_
  refine ar T (λK' u=>?_);rw[jv aj];refine qf 52 _ _ T bb 2 #[I N u0,A pc 48 R] T T (mW (o:=2) (n:=2) cA ax) ag (by simp[jH]) ?_;rw[show(#[I N u0,A pc 48 R]:ju jj).toList=[I N u0,A pc 48 R]from T];obtain⟨s1,s2⟩:=DJ (i:=2) (x:=I N u0) (y:=A pc 48 R) cA;have s3:jm wr wr (l5.setCells bb 2 [I N u0,A pc 48 R]):=Below.cellsFrom fo bb (jR ev) _ _;have cL:=mh (w':=l5.setCells bb 2 [I N u0,A pc 48 R]) fm (λk hk=>s2 k (aA S9));refine u _ _ ⟨⟨ae s1 T,ae s1 T⟩,(s2 (t+1+1+1) (eF cp ba)).trans WS,(s2 (t+1+1+1+1) (eF cp ba)).trans cz⟩ λ_=>?_
  clear u;have cX:jc ((l5.setCells bb 2 [I N u0,A pc 48 R]).heap[bb]?=jb (jd #[I N s,I N (q:jh),I N u0,A pc 48 R] 54 (0,0))):=O s1;have c5:jc (cP M2 (t+1+1+1+1) 63 54 4 Bx.cells Bx.body (λv=>(av (bG g a m z) ⟨A TA m.length c1,A pq 10 cq,v,A ja 0 0⟩).toArray) p2 (l5.setCells bb 2 [I N u0,A pc 48 R]) i (A pv i cv) ((nl.take i).map (eN g a m z seed)) us):=O (Sj.later ba s3);have c6:jc (ay (λg=>M2<=g/\g<(l5.setCells bb 2 [I N u0,A pc 48 R]).heap.size/\(jU pv i cv).ownBlock≠jb g) (l5.setCells bb 2 [I N u0,A pc 48 R]) (A pc 48 R) 1 48 (bd.map v8)):=O (ay.of_own cL (λg hg=>by
   have h1:=cL.lt g hg;have h2:=S9.out;have h3:=cp.out;have i1:=ev.out;exact⟨by omega,h1.2,cJ Sj.row.own (.inl Y)⟩))
  clear s1 s2 s3 cL;generalize l5.setCells bb 2 [I N u0,A pc 48 R]=kc at cX c5 c6⊢;have hl:=cX;have b3:=c5;have hm:=c6;clear cX c5 c6;refine L ?_;refine jL ?_;clear fo cz cA RX c8 c9 i0 WS ec fv fm hh g5 ha Sj bT ez e1;have VH:=ae b3.row.box (lQ (bG g a m z) (A TA m.length c1) (A pq 10 cq) (A pv i cv) (A ja 0 0) UB dT).2.1
  go_upto_region 28 with fail
  refine j0 ?_;iterate 2 refine bH ?_
  refine jQ T 54 _ T bb T 54 #[I N s,I N (q:jh),I N u0,A pc 48 R] (0,0) _ hl.out underlying54 T ag ?_
  go_wp2_with (at_builtin;refine Hid.out ?_)
  refine O ?_;refine jJ T λ_ u=>Ca _ _ T M2 (A pv i cv) i _ T (dx b3.row.own (ai kc _)) _ 1 [I N s,I N (q:jh),I N u0,A pc 48 R] T (eU kc [I N s,I N (q:jh),I N u0,A pc 48 R] 54 (0,0) 4 1 1 T (jn _)) (by simp[jH]) Y (jA b3.row.sz' (ai kc _).size) λv' k9 Sd=>u _ _ ?_
  clear u;have b4:=ai kc (jd #[I N s,I N (q:jh),I N u0,A pc 48 R] 54);have a4:=b3.later ba b4;have fv:=(ay.keep hm (w':=kc.alloc (jd #[I N s,I N (q:jh),I N u0,A pc 48 R] 54)) (λg hg=>b4.block g hg.2.1)).mono (D':=λg=>M2<=g/\g<(kc.alloc (jd #[I N s,I N (q:jh),I N u0,A pc 48 R] 54)).heap.size/\(jU pv i cv).ownBlock≠jb g) (λg hg=>⟨hg.1,jz hg.2.1 b4.size,hg.2.2⟩);have Tx:=eP a4.row.box Sd.grown (cJ a4.row.own (.inr ba));obtain⟨pn,cn,rfl⟩:=a8 Sd.own;have Tl:jc (cP M2 (t+1+1+1+1) 63 54 4 Bx.cells Bx.body (λv=>(av (bG g a m z) ⟨A TA m.length c1,A pq 10 cq,v,A ja 0 0⟩).toArray) p2 (k9.setCell ⟨(t+1+1+1+1),37,ja⟩ (A pn (i+1) cn)) (i+1) (A pn (i+1) cn) ((nl.take (i+1)).map (eN g a m z seed)) (us++[A pc 48 R])):=O (by
   rw[T7,SF];exact cP.push (x:=(⟨s,(q:jh),u0,bd⟩:Bx)) a4 ba (by show ay _ _ _ 1 bd.length (bd.map v8);rw[g3];exact fv) Sd (hK _ _))
  obtain⟨⟨vo,c3⟩,f3,-,-⟩:=cE (i:=37) (A pn (i+1) cn) Tx (by rw[(lQ (bG g a m z) (A TA m.length c1) (A pq 10 cq) (A pv i cv) (A ja 0 0) UB dT).2.2.2];decide);clear a4 fv Sd Tx VH b4
  go_wp2_with fail
  go_roundw
  case rel=>exact⟨i+1,pn,cn,us++[A pc 48 R],by go_num,by omega,Tl⟩
  case measure=>simp only[jK];omega
 obtain rfl:nu=i:=Y;have hd:decide ((nu:jh)<(nu:jh))=jo:=by simp
 have Sm:decide (nu<nu)=jo:=by simp
 rename jg=>p3;obtain⟨pb,cb,eb,hN⟩:∃(p:jB jN) (c:jf),p=pv/\c=cv:=⟨_,_,T,T⟩;subst eb;subst hN;have cc:nl.take nu=nl:=j5 (by rw[Zk];exact jn _);rw[cc]at Sj;have Va:=Sj.row.but;have Sl:=O Sj.row.box;have RI:jc (jm w w p3):=O (RE.trans (Sj.row.but.below (n:=w.heap.size) (by rw[HG];omega) (eF ba HG)));have WM:=O (iK Yh (λk a5 ad=>Va.block k (by rw[Ta];exact ad) (aA ck)));have WL:=O (iK Yl (λk a5 ad=>Va.block k (by rw[Ta];exact ad) (aA SS)));have Tf:jc (p3.heap[t+1+1+1]?=jb (jd S 64 (0,0))):=O ((Va.block (t+1+1+1) (aA ba) Y).trans R7);have Ss:jc (p3.heap[(t+1+1+1+1+1)]?=jb (jd SA 64 (0,0))):=O ((Va.block (t+1+1+1+1+1) (aA hF) Y).trans Se);have Uc:=Sj;clear Va cc Sj RE Yh Yl R7 Se R3 bq g1 bv ea bI hi hK VL gm hH hI hJ;have s:jc (∀W,EC.At W (A pc nc R) m->jr jl 49 #[I N a,A pc nc R] W λe w'=>∃aa,e=jq aa/\EC.At w' aa (dD a m)/\jm W W w'):=O (λW hW=>wW a m _ W hW WI.once gb);obtain⟨wl,q⟩:=J (dD a m);rw[<-q]at s;have gm:=O q;have g1:jc (wl.length<=64):=O (by rw[q];have:=AM a m;have:=WI.len;omega);clear q
 go_upto_region 30 with fail
 go_wp2_with fail
 refine(s p3 ((EK.At.of_sl (E:=EC) dd).below RI)).mono ?_;rintro e p4 ⟨aa,rfl,hu,d⟩;have ce:=O hu;obtain⟨pw,hI,rfl,-,-⟩:=hu.form;clear hu;have Ty:=Z Sl d;have Tj:=Z Ss d;have TG:=Z Tf d;have RO:=ac RI d;have b0:=aO WM d;have b1:=aO WL d;have Tk:=O (Uc.later ba d);clear Sl Ss Tf RI WM WL Uc;clear d;obtain⟨nw,q⟩:=J wl.length;rw[<-q]at ce g1⊢;have YK:=O q;clear q s;obtain⟨M3,q⟩:=J p4.heap.size;have Tq:=O q;have bg:jc ((t+1+1+1+1)<M3):=O (by rw[q];exact(js.1 Ty).1);have ea:jc ((t+1+1+1+1+1)<M3):=O (by rw[q];exact(js.1 Tj).1);have e0:jc (kj (λk=>M2<=k/\k<M3) p4 (A pb nu cb) (nl.map (eN g a m z seed))):=O (by
  obtain⟨s,h1,h2⟩:=Tk.slice (by rw[jw];exact Zk) (D:=λk=>M2<=k/\k<M3) (λk a5 ad=>⟨a5,by rw[q];exact ad⟩);exact⟨s,h1,h2⟩)
 have hJ:jc (∀aa v,((λv=>(av (bG g a m z) ⟨A TA m.length c1,A pq 10 cq,A pb nu cb,v⟩).toArray) aa).setIfInBounds 38 v=(λv=>(av (bG g a m z) ⟨A TA m.length c1,A pq 10 cq,A pb nu cb,v⟩).toArray) v):=O (λaa v=>wP (bG g a m z) _ _ _ _ _ UB.out);have s:jc (cP M3 (t+1+1+1+1) 63 104 3 Wl.cells Wl.body (λv=>(av (bG g a m z) ⟨A TA m.length c1,A pq 10 cq,A pb nu cb,v⟩).toArray) p4 p4 0 (A ja 0 0) ((wl.take 0).map (fZ g a m z init seed)) []):=O (cP.start Ty (jR q));clear q Tk
 go_wp2_with fail
 go_loopw [160] (λv wr=>∃(i:jf) (pv:jB jN) (cv:jf) (us:ji jj),v=I N i/\i<=nw/\jc (cP M3 (t+1+1+1+1) 63 104 3 Wl.cells Wl.body (λv=>(av (bG g a m z) ⟨A TA m.length c1,A pq 10 cq,A pb nu cb,v⟩).toArray) p4 wr i (A pv i cv) ((wl.take i).map (fZ g a m z init seed)) us)) (λv _=>nw-(jK v).toNat)
 case atStart=>exact⟨0,ja,0,[],T,jX _,s⟩
 clear s;obtain⟨i,pv,cv,us,rfl,hi,Sj⟩:=hrel;have h8:=g1.out
 by_cases bI:i<nw
 ·have gf:=ao ((i:jh)<(nw:jh))
  have gi:=ao (i<nw);have hq:(i:jh)<(nw:jh):=Y;have SR:jc (jm w w wr):=O (RO.trans (Sj.row.but.below (n:=w.heap.size) (by rw[HG];omega) (eF bg HG)));have Va:=Sj.row.but;have ek:=O (iK b0 (λk a5 ad=>Va.block k (by rw[Tq];exact ad) (aA ck)));have em:=O (iK b1 (λk a5 ad=>Va.block k (by rw[Tq];exact ad) (aA SS)));have bs:jc (EC.At wr (A pw nw hI) wl):=O (NI ce (j:=38) Ty Sj.row.box (λk hk hn=>Va.block k (by rw[Tq];exact hk) hn) (λj hj=>Hh (bG g a m z) _ _ _ _ _ UB.out j hj) ⟨_,_,_,(lQ (bG g a m z) _ _ _ _ UB.out dT).2.2.1⟩);have eq:jc (wr.heap[t+1+1+1]?=jb (jd S 64 (0,0))):=O ((Va.block (t+1+1+1) (aA bg) Y).trans TG);have bC:jc (wr.heap[(t+1+1+1+1+1)]?=jb (jd SA 64 (0,0))):=O ((Va.block (t+1+1+1+1+1) ea Y).trans Tj);have hn:jc (kj (·<wr.heap.size) wr (A pb nu cb) (nl.map (eN g a m z seed))):=O (e0.keep (λk hk=>Va.block k hk.2 (aA ba)) (λk hk=>by have:=Sj.row.sz';omega));obtain⟨-,-,SQ⟩:=bs.cells;obtain⟨g0,o,hK,br⟩:=SQ Y;subst hK;obtain⟨⟨yk,q,yp,yv,yc⟩,C,Vu⟩:=dF (l:=wl) (j:=i) (by rw[<-YK];exact bI);have d0:wr.cell? ⟨g0,o+i*5,ja⟩=jb (I N yk):=br i _ C 0 _ T;have d1:wr.cell? ⟨g0,o+i*5+1,ja⟩=jb (I N q):=br i _ C 1 _ T;have d2:wr.cell? ⟨g0,o+i*5+2,ja⟩=jb (I N yp):=br i _ C 2 _ T;have d3:wr.cell? ⟨g0,o+i*5+3,ja⟩=jb (I N yv):=br i _ C 3 _ T;have d4:wr.cell? ⟨g0,o+i*5+4,ja⟩=jb (I N yc):=br i _ C 4 _ T;have cm:=o4 C;rw[gm]at cm;obtain⟨Ut,bq,WW⟩:=Ga.1 cm;have s:=WI.each _ Ut;have cd:aW yp:=by
   rcases s.2 with⟨_,b,_,_⟩|⟨a,_⟩|⟨_,b,_⟩
   ·exact b
   ·exact jZ a bq
   exact b
  have bv:0<=q/\q<512:=s.1;obtain⟨Tt,c7⟩:=pz (show 0<=yp by have:=cd.1;omega);subst c7;have g2:=O cd;have hH:=O bv;have T7:jc ((wl.take (i+1)).map (fZ g a m z init seed)=(wl.take i).map (fZ g a m z init seed)++[fZ g a m z init seed ⟨yk,q,(Tt:jh),yv,yc⟩]):=O (by rw[Vu,lw];rfl);clear SQ br C Vu cm Ut bq WW s cd bv Va
  go_upto_region 34 with fail
  obtain⟨bb,UD⟩:=J wr.heap.size;have a3:=jt wr (jd #[I N yk,I N q,I N (Tt:jh),I N yv,I N yc] 47);have d:=ai wr (jd #[I N yk,I N q,I N (Tt:jh),I N yv,I N yc] 47);have s:=jt (wr.alloc (jd #[I N yk,I N q,I N (Tt:jh),I N yv,I N yc] 47)) (jd #[I N q,I N 0,A ja 0 0] 104);have bq:=ai (wr.alloc (jd #[I N yk,I N q,I N (Tt:jh),I N yv,I N yc] 47)) (jd #[I N q,I N 0,A ja 0 0] 104);rw[jF]at s;replace a3:=az a3 bq;replace d:=d.trans (bq.mono d.size);have cp:jc (M3<=bb):=O (by rw[UD];exact Sj.row.sz');rw[<-UD]at a3 s⊢;obtain⟨k0,Un⟩:=J ((wr.alloc (jd #[I N yk,I N q,I N (Tt:jh),I N yv,I N yc] 47)).alloc (jd #[I N q,I N 0,A ja 0 0] 104));rw[<-Un]at a3 s d⊢;have bh:=O d;have bc:=O (az Sj.row.box d);have bv:=O a3;have bf:=O s;have V:=ac SR d;have bk:=aO ek d;have bl:=aO em d;have Ye:=O (hn.below d);have Tp:=Z eq d;have cd:=Z bC d;have ev:jc (wr.heap.size=bb):=O UD.symm;clear a3 s d bq Un UD SR ek em bs eq bC hn d0 d1 d2 d3 d4;obtain⟨ex,bK⟩:=J (fi seed nR [q]);have ew:ex.length=32:=by rw[bK];exact oA _ _ _
  obtain⟨EX,cs⟩:=J ((ex.map v8).toArray);obtain⟨bM,bN⟩:=J (nf (bG g a m z) nR [q]);obtain⟨u0,cu⟩:∃y:jh,y=((aR 4 (kY ex):jf):jh):=⟨_,T⟩;obtain⟨bd,bO⟩:=J (gO Tt ex bM (gh g z init));have g3:jc (bd.length=48):=O (by rw[bO,mA,k7]);have bT:jc (∀W v,cV W v [q]->da W->jr jl 47 #[jk S,je ⟨#[119,101,108,99,111,109,101]⟩,v] W λe w'=>e=jq (jk EX)/\jm W W w'):=O (λW v hv hW=>by
   rw[hx,cs,bK];exact pM seed ht nR [q] v W hv (EO G (by have:=hH.out;intro x C;simp at C;rcases C with rfl;exact⟨by omega,by omega⟩) ax) hW)
  have ez:jc (∀W v s,aF (·<W.heap.size) W {bG g a m z with box:=nl.map (eN g a m z seed),wel:=s} ⟨A TA m.length c1,A pq 10 cq,A pb nu cb,A pv i cv⟩->s.length<=1000000->cV W v [q]->da W->jr jl 48 #[jk ((λv=>(av (bG g a m z) ⟨A TA m.length c1,A pq 10 cq,A pb nu cb,v⟩).toArray) (A pv i cv)),je ⟨#[119,101,108,99,111,109,101]⟩,v] W λe w'=>∃D,e=jq (A (jb ⟨D,0,ja⟩) 32 32)/\aP w' (A (jb ⟨D,0,ja⟩) 32 32) bM/\jm W W w'):=O (λW v s hC hu hv hW=>by
   rw[bN];exact Cj {bG g a m z with box:=nl.map (eN g a m z seed),wel:=s} _ nR [q] v W G hC hv ax ⟨gb,by show(dL z).length<=_;rw[kD];decide,by show(nl.map (eN g a m z seed)).length<=_;rw[jw,<-Zk];have:=hM.out;omega,hu⟩
    (BD (c:={bG g a m z with box:=nl.map (eN g a m z seed),wel:=s}) (nums:=[q]) (by have h1:=Zi.fol.1;have h2:=Zi.fol.2;exact⟨by show _ <=g.folder;omega,by show g.folder<_;omega⟩) (by have h1:=Zi.ep;exact⟨by show _ <=g.epoch+1;omega,by show g.epoch+1<_;omega⟩) (by have:=WR.out;exact⟨by show _ <=a;omega,by show a<_;omega⟩) UB (by have:=hH.out;intro x C;simp at C;rcases C with rfl;exact⟨by omega,by omega⟩) ax) hW)
  have e1:jc (∀W vh vb,aP W vh bM->aP W vb (gh g z init)->kr W->jr jl 46 #[I N (Tt:jh),jk EX,vh,vb] W λe w'=>∃c,e=jq (j8 #[jk #[I N u0,c],I N 0])/\w'.ownsRow W 5 1 c 48 (bd.map v8)/\jm W W w'):=O (λW vh vb h1 h2 h3=>by
   have h:=FA Tt g2 ex bM (gh g z init) ew (by rw[bN];unfold nf;rw[et];decide) (by rw[k7];decide) vh vb W h1 h2 h3;rw[k7]at h;rw[cs,cu,bO];exact h)
  have cm:jc (fZ g a m z init seed ⟨yk,q,(Tt:jh),yv,yc⟩=⟨q,u0,bd⟩):=O (by rw[bO,cu,bN,bK];rfl);have ek:jc ((jl.info? 63).map (·.size)=jb ((λv=>(av (bG g a m z) ⟨A TA m.length c1,A pq 10 cq,A pb nu cb,v⟩).toArray) (A pv i cv)).size):=O (by rw[jD,fa _ _ UB.out dT];exact fN);clear ew cs bN cu bO bK
  go_upto_region 34 with fail
  refine jO ?_;refine bY (λF=>F.heap[bb]?=jb (jd #[I N yk,I N q,I N (Tt:jh),I N yv,I N yc] 47 (0,0))/\F.heap[t+1+1+1]?=jb (jd S 64 (0,0))/\F.heap[(t+1+1+1+1)]?=jb (jd ((λv=>(av (bG g a m z) ⟨A TA m.length c1,A pq 10 cq,A pb nu cb,v⟩).toArray) (A pv i cv)) 63 (0,0))) (.t 0 (.t 1 (.t 2 (.t 3 (.t 4 (.t 7 (.t 8 (.t 9 (.t 12 (.w 5 10 (.w 6 10 (.o 10 (.o 11 (.o 13 (.t 14 (.t 15 (.t 16 (.t 17 (.o 18 .done)))))))) (.o 6 (.o 11 (.o 13 (.t 14 (.t 15 (.t 16 (.t 17 (.o 18 .done))))))))) (.o 5 (.o 6 (.o 11 (.o 13 (.t 14 (.t 15 (.t 16 (.t 17 (.o 18 .done))))))))))))))))))) ag ag ag G (λ_ _ _ _ h=>h) ⟨bv,Tp,bc⟩ ?_;obtain⟨l0,RQ⟩:=J k0.drew;have d:=bz k0;rw[<-RQ]at d⊢;have e2:=ac bh d;have e3:=Z bc d;have s:=Z bv d;have e4:=Z bf d;have TR:=ac V d;have e5:=aO bk d;have e6:=aO bl d;have a3:=O (Ye.below d);have bu:=Z Tp d;have bq:=Z cd d;clear d RQ bh bc bv bf V bk bl Ye Tp cd;have bh:=e2;clear e2;have bc:=e3;clear e3;have bv:=s;clear s;have bf:=e4;clear e4;have V:=TR;clear TR;have bk:=e5;clear e5;have bl:=e6;clear e6;have Ye:=a3;clear a3;have Tp:=bu;clear bu;have cd:=bq;clear bq;iterate 2 refine tP ?_
  (refine aE (v:=jk S) T aj (λF U=>cI jI T hr T T U.2.1) (L ?_))
  iterate 2 refine tP ?_
  (refine aE (v:=jk ((λv=>(av (bG g a m z) ⟨A TA m.length c1,A pq 10 cq,A pb nu cb,v⟩).toArray) (A pv i cv))) T aj (λF U=>cI jP T ek T T U.2.2) (L ?_))
  iterate 3 refine tP ?_
  apply DD (.o 11 (.o 13 (.t 14 (.t 15 (.t 16 (.t 17 (.o 18 .done)))))))
  rotate_left
  ·intro Vj
   refine gM ?_ ?_
   ·refine ar T (λK' u=>?_)
    go_simp;have d:=ai l0 (jd #[I N q] 3);have Q:=m9 l0 q;obtain⟨l1,C⟩:=J (l0.alloc (jd #[I N q] 3));rw[<-C]at d Q⊢;obtain⟨bw,hg⟩:=J l0.heap.size;rw[<-hg]at Q⊢;clear hg;have Zo:=ac bh d;have Wt:=Z bc d;have bq:=Z bv d;have YF:=Z bf d;have RD:=ac V d;have VM:=aO bk d;have Yk:=aO bl d;have YY:=O (Ye.below d);have Su:=Z Tp d;have bC:=Z cd d;have bA:=O Q;clear Q C d;refine u _ _ ⟨bq,Su,Wt⟩ λ_=>?_
    clear u;refine L ?_;refine gM ?_ ?_
    ·refine ar T (λK' u=>?_)
     go_simp;refine(bT l1 _ bA.out (SP.dig.below RD)).mono ?_;rintro e l2 ⟨rfl,d⟩;have Ux:=ac Zo d;have Wr:=Z Wt d;have s:=Z bq d;have ZR:=Z YF d;have RE:=ac RD d;have Yh:=aO VM d;have Yl:=aO Yk d;have TU:=O (YY.below d);have R7:=Z Su d;have br:=Z bC d;have Yj:=O (dS bA d);clear Zo Wt bq YF RD VM Yk YY Su bC bA;clear d;refine u _ _ ⟨s,R7,Wr⟩ λ_=>?_
     clear u;refine L ?_;refine ar T (λK' u=>?_);go_simp;have d:=ai l2 (jd #[I N q] 3);have Q:=m9 l2 q;obtain⟨l3,C⟩:=J (l2.alloc (jd #[I N q] 3));rw[<-C]at d Q⊢;obtain⟨bm,hg⟩:=J l2.heap.size;rw[<-hg]at Q⊢;clear hg;have VJ:=ac Ux d;have Ws:=Z Wr d;have a3:=Z s d;have ZQ:=Z ZR d;have RI:=ac RE d;have WM:=aO Yh d;have WL:=aO Yl d;have Uc:=O (TU.below d);have Tf:=Z R7 d;have bs:=Z br d;have ZU:=O (dS Yj d);clear Ux Wr s ZR RE Yh Yl TU R7 br Yj;have Y6:=O Q;clear Q C d;refine u _ _ ⟨a3,Tf,Ws⟩ λ_=>?_
     clear u;refine L ?_;have hG:=(And.intro VJ (And.intro Ws (And.intro a3 (And.intro ZQ (And.intro RI (And.intro WM (And.intro WL (And.intro Uc (And.intro Tf (And.intro bs (And.intro ZU Y6)))))))))));exact Vj bw bm l3 hG
    refine ar T (λK' u=>?_);go_simp;have d:=ai l1 (jd #[I N q] 3);have Q:=m9 l1 q;obtain⟨l2,C⟩:=J (l1.alloc (jd #[I N q] 3));rw[<-C]at d Q⊢;obtain⟨bm,hg⟩:=J l1.heap.size;rw[<-hg]at Q⊢;clear hg;have Ux:=ac Zo d;have Wr:=Z Wt d;have s:=Z bq d;have ZR:=Z YF d;have RE:=ac RD d;have Yh:=aO VM d;have Yl:=aO Yk d;have TU:=O (YY.below d);have R7:=Z Su d;have br:=Z bC d;have Yj:=O (dS bA d);clear Zo Wt bq YF RD VM Yk YY Su bC bA;have bB:=O Q;clear Q C d;refine u _ _ ⟨s,R7,Wr⟩ λ_=>?_
    clear u;refine L ?_;refine ar T (λK' u=>?_);go_simp;refine(bT l2 _ Yj.out (SP.dig.below RE)).mono ?_;rintro e l3 ⟨rfl,d⟩;have VJ:=ac Ux d;have Ws:=Z Wr d;have a3:=Z s d;have ZQ:=Z ZR d;have RI:=ac RE d;have WM:=aO Yh d;have WL:=aO Yl d;have Uc:=O (TU.below d);have Tf:=Z R7 d;have bs:=Z br d;have ZU:=O (dS Yj d);have Y6:=O (dS bB d);clear Ux Wr s ZR RE Yh Yl TU R7 br Yj bB;clear d;refine u _ _ ⟨a3,Tf,Ws⟩ λ_=>?_
    clear u;refine L ?_;have hG:=(And.intro VJ (And.intro Ws (And.intro a3 (And.intro ZQ (And.intro RI (And.intro WM (And.intro WL (And.intro Uc (And.intro Tf (And.intro bs (And.intro ZU Y6)))))))))));exact Vj bw bm l3 hG
   refine ar T (λK' u=>?_);go_simp;have d:=ai l0 (jd #[I N q] 3);have Q:=m9 l0 q;obtain⟨l1,C⟩:=J (l0.alloc (jd #[I N q] 3));rw[<-C]at d Q⊢;obtain⟨bm,hg⟩:=J l0.heap.size;rw[<-hg]at Q⊢;clear hg;have Zo:=ac bh d;have Wt:=Z bc d;have bq:=Z bv d;have YF:=Z bf d;have RD:=ac V d;have VM:=aO bk d;have Yk:=aO bl d;have YY:=O (Ye.below d);have Su:=Z Tp d;have bC:=Z cd d;have e7:=O Q;clear Q C d;refine u _ _ ⟨bq,Su,Wt⟩ λ_=>?_
   clear u;refine L ?_;refine ar T (λK' u=>?_);go_simp;have d:=ai l1 (jd #[I N q] 3);have Q:=m9 l1 q;obtain⟨l2,C⟩:=J (l1.alloc (jd #[I N q] 3));rw[<-C]at d Q⊢;obtain⟨bw,hg⟩:=J l1.heap.size;rw[<-hg]at Q⊢;clear hg;have Ux:=ac Zo d;have Wr:=Z Wt d;have s:=Z bq d;have ZR:=Z YF d;have RE:=ac RD d;have Yh:=aO VM d;have Yl:=aO Yk d;have TU:=O (YY.below d);have R7:=Z Su d;have br:=Z bC d;have bB:=O (dS e7 d);clear Zo Wt bq YF RD VM Yk YY Su bC e7;have Yj:=O Q;clear Q C d;refine u _ _ ⟨s,R7,Wr⟩ λ_=>?_
   clear u;refine L ?_;refine ar T (λK' u=>?_);go_simp;refine(bT l2 _ Yj.out (SP.dig.below RE)).mono ?_;rintro e l3 ⟨rfl,d⟩;have VJ:=ac Ux d;have Ws:=Z Wr d;have a3:=Z s d;have ZQ:=Z ZR d;have RI:=ac RE d;have WM:=aO Yh d;have WL:=aO Yl d;have Uc:=O (TU.below d);have Tf:=Z R7 d;have bs:=Z br d;have Y6:=O (dS bB d);have ZU:=O (dS Yj d);clear Ux Wr s ZR RE Yh Yl TU R7 br bB Yj;clear d;refine u _ _ ⟨a3,Tf,Ws⟩ λ_=>?_
   clear u;refine L ?_;have hG:=(And.intro VJ (And.intro Ws (And.intro a3 (And.intro ZQ (And.intro RI (And.intro WM (And.intro WL (And.intro Uc (And.intro Tf (And.intro bs (And.intro ZU Y6)))))))))));exact Vj bw bm l3 hG
  clear bh bc bv bf V bk bl Ye Tp cd;rintro bw bm l3 ⟨VJ,Ws,a3,ZQ,RI,WM,WL,Uc,Tf,bs,ZU,Y6⟩;refine ar T (λK' u=>?_);go_simp;refine(ez l3 _ _ (PV UB WM WL Uc (Sj.later bg VJ) (by rw[jw,kn];have:=YK.out;omega)) (by rw[jw,kn];omega) Y6 (SP.dig.below RI)).mono ?_;rintro e l4 ⟨hO,rfl,cf,d⟩;have cw:=O cf;clear cf;have e8:=ac VJ d;have cx:=Z Ws d;have s:=Z a3 d;have cy:=Z ZQ d;have RO:=ac RI d;have b0:=aO WM d;have b1:=aO WL d;have Tk:=O (Uc.below d);have TG:=Z Tf d;have bc:=Z bs d;have e9:=O (dS ZU d);have fe:=O (dS Y6 d);clear VJ Ws a3 ZQ RI WM WL Uc Tf bs ZU Y6;clear d;refine u _ _ ⟨s,TG,cx⟩ λ_=>?_
  clear u;refine L ?_;refine ar T (λK' u=>?_);go_simp;refine(e1 l4 _ _ cw.out (wU bc (λj aa hj=>by rw[gz,Nat.zero_add];simpa using hj) (k7 _ _ _)) (hs.below RO)).mono ?_;rintro e l5 ⟨c,rfl,b2,d⟩;have S9:jc (bb+1<l4.heap.size):=O (js.1 cy).1;obtain⟨ip,g4⟩:=J l4.heap.size;rw[<-g4]at b2 S9;have fm:=O b2;obtain⟨pc,R,rfl⟩:=a8 b2;clear b2;have fo:=ac e8 d;have cz:=Z cx d;have bf:=Z s d;have cA:=Z cy d;have RX:=ac RO d;have c8:=aO b0 d;have c9:=aO b1 d;have U7:=O (Tk.below d);have WS:=Z TG d;have bh:=Z bc d;have g5:=O (dS e9 d);have ha:=O (dS fe d);have hh:=O (cw.below d);clear e8 cx s cy RO b0 b1 Tk TG bc e9 fe cw;clear d;refine u _ _ ⟨bf,WS,cz⟩ λ_=>?_
  clear u;refine L ?_;iterate 4 refine tP ?_
  refine ar T (λK' u=>?_);rw[jv aj];refine qf 52 _ _ T (bb+1) 1 #[I N u0,A pc 48 R] T T (mW (o:=1) (n:=2) cA ax) ag (by simp[jH]) ?_;rw[show(#[I N u0,A pc 48 R]:ju jj).toList=[I N u0,A pc 48 R]from T];obtain⟨s1,s2⟩:=DJ (i:=1) (x:=I N u0) (y:=A pc 48 R) cA;have s3:jm wr wr (l5.setCells (bb+1) 1 [I N u0,A pc 48 R]):=Below.cellsFrom fo (bb+1) (by rw[ev];omega) _ _;have cL:=mh (w':=l5.setCells (bb+1) 1 [I N u0,A pc 48 R]) fm (λk hk=>s2 k (aA S9));refine u _ _ ⟨(s2 bb Y).trans bf,(s2 (t+1+1+1) (eF cp bg)).trans WS,(s2 (t+1+1+1+1) (eF cp bg)).trans cz⟩ λ_=>?_
  clear u;have cX:jc ((l5.setCells (bb+1) 1 [I N u0,A pc 48 R]).heap[bb+1]?=jb (jd #[I N q,I N u0,A pc 48 R] 104 (0,0))):=O s1;have c5:jc (cP M3 (t+1+1+1+1) 63 104 3 Wl.cells Wl.body (λv=>(av (bG g a m z) ⟨A TA m.length c1,A pq 10 cq,A pb nu cb,v⟩).toArray) p4 (l5.setCells (bb+1) 1 [I N u0,A pc 48 R]) i (A pv i cv) ((wl.take i).map (fZ g a m z init seed)) us):=O (Sj.later bg s3);have c6:jc (ay (λg=>M3<=g/\g<(l5.setCells (bb+1) 1 [I N u0,A pc 48 R]).heap.size/\(jU pv i cv).ownBlock≠jb g) (l5.setCells (bb+1) 1 [I N u0,A pc 48 R]) (A pc 48 R) 1 48 (bd.map v8)):=O (ay.of_own cL (λg hg=>by
   have h1:=cL.lt g hg;have h2:=S9.out;have h3:=cp.out;have i1:=ev.out;exact⟨by omega,h1.2,cJ Sj.row.own (.inl Y)⟩))
  clear s1 s2 s3 cL;generalize l5.setCells (bb+1) 1 [I N u0,A pc 48 R]=kc at cX c5 c6⊢;have hl:=cX;have b3:=c5;have hm:=c6;clear cX c5 c6;refine L ?_;refine jL ?_;clear fo cz bf cA RX c8 c9 U7 WS bh fm hh g5 ha Sj bT ez e1;have s:=ae b3.row.box (lQ (bG g a m z) (A TA m.length c1) (A pq 10 cq) (A pb nu cb) (A pv i cv) UB dT).2.2.1
  go_upto_region 35 with fail
  refine j0 ?_;iterate 2 refine bH ?_
  refine jQ T 104 _ T (bb+1) T 104 #[I N q,I N u0,A pc 48 R] (0,0) _ hl.out underlying104 T ag ?_
  go_wp2_with (at_builtin;refine Hid.out ?_)
  refine O ?_;refine jJ T λ_ u=>Bq _ _ T M3 (A pv i cv) i _ T (dx b3.row.own (ai kc _)) _ 1 [I N q,I N u0,A pc 48 R] T (eU kc [I N q,I N u0,A pc 48 R] 104 (0,0) 3 1 1 T (jn _)) (by simp[jH]) Y (jA b3.row.sz' (ai kc _).size) λv' k9 Sd=>u _ _ ?_
  clear u;have b4:=ai kc (jd #[I N q,I N u0,A pc 48 R] 104);have a4:=b3.later bg b4;have fv:=(ay.keep hm (w':=kc.alloc (jd #[I N q,I N u0,A pc 48 R] 104)) (λg hg=>b4.block g hg.2.1)).mono (D':=λg=>M3<=g/\g<(kc.alloc (jd #[I N q,I N u0,A pc 48 R] 104)).heap.size/\(jU pv i cv).ownBlock≠jb g) (λg hg=>⟨hg.1,jz hg.2.1 b4.size,hg.2.2⟩);have Tx:=eP a4.row.box Sd.grown (cJ a4.row.own (.inr bg));obtain⟨pn,cn,rfl⟩:=a8 Sd.own;have Tl:jc (cP M3 (t+1+1+1+1) 63 104 3 Wl.cells Wl.body (λv=>(av (bG g a m z) ⟨A TA m.length c1,A pq 10 cq,A pb nu cb,v⟩).toArray) p4 (k9.setCell ⟨(t+1+1+1+1),38,ja⟩ (A pn (i+1) cn)) (i+1) (A pn (i+1) cn) ((wl.take (i+1)).map (fZ g a m z init seed)) (us++[A pc 48 R])):=O (by
   rw[T7,cm];exact cP.push (x:=(⟨q,u0,bd⟩:Wl)) a4 bg (by show ay _ _ _ 1 bd.length (bd.map v8);rw[g3];exact fv) Sd (hJ _ _))
  obtain⟨⟨vo,c3⟩,f3,-,-⟩:=cE (i:=38) (A pn (i+1) cn) Tx (by rw[(lQ (bG g a m z) (A TA m.length c1) (A pq 10 cq) (A pb nu cb) (A pv i cv) UB dT).2.2.2];decide);clear a4 fv Sd Tx s b4
  go_wp2_with fail
  go_roundw
  case rel=>exact⟨i+1,pn,cn,us++[A pc 48 R],by go_num,by omega,Tl⟩
  case measure=>simp only[jK];omega
 obtain rfl:nw=i:=Y;have gf:decide ((nw:jh)<(nw:jh))=jo:=by simp
 have gi:decide (nw<nw)=jo:=by simp
 rename jg=>p5;obtain⟨pe,bM,bN,bO⟩:∃(p:jB jN) (c:jf),p=pv/\c=cv:=⟨_,_,T,T⟩;subst bN;subst bO;have cc:wl.take nw=wl:=j5 (by rw[YK];exact jn _);rw[cc]at Sj;have Va:=Sj.row.but;have RX:jc (jm w w p5):=O (RO.trans (Sj.row.but.below (n:=w.heap.size) (by rw[HG];omega) (eF bg HG)));have c8:=iK b0 (λk a5 ad=>Va.block k (by rw[Tq];exact ad) (aA ck));have c9:=iK b1 (λk a5 ad=>Va.block k (by rw[Tq];exact ad) (aA SS));have Vi:jc (p5.heap[(t+1+1+1+1+1)]?=jb (jd SA 64 (0,0))):=O ((Va.block (t+1+1+1+1+1) ea Y).trans Tj);have bh:kj (λk=>t+6<=k/\k<p5.heap.size) p5 (A pb nu cb) (nl.map (eN g a m z seed)):=e0.keep (λk hk=>Va.block k hk.2 (aA ba)) (λk hk=>⟨by have:=hF.out;omega,by have:=Sj.row.sz';omega⟩);have bk:=Sj.slice (by rw[jw];exact YK) (D:=λk=>t+6<=k/\k<p5.heap.size) (λk h1 h2=>⟨by have:=ea.out;omega,h2⟩);obtain⟨q,hq⟩:∃y:CQ,y=⟨A TA m.length c1,A pq 10 cq,A pb nu cb,A pe nw bM⟩:=⟨_,T⟩;have bs:jc (aF (λk=>t+6<=k/\k<p5.heap.size) p5 (mk1 g a m z init seed) q):=O (by
  rw[Zf,T9]at bh;rw[gm]at bk;rw[hq];exact Iz UB c8 c9 bh bk (λk h1 h2=>⟨by have:=ck.out;omega,h2⟩) (λk h1 h2=>⟨by have:=ej.out;omega,h2⟩))
 obtain⟨Y1,ad⟩:=J ((av (mk1 g a m z init seed) q).toArray);have ZT:jc (p5.heap[(t+1+1+1+1)]?=jb (jd Y1 63 (0,0))):=O (by rw[ad,hq,Q4];exact Sj.row.box);have bv:=Fe (x:=X) (init:=init) (seed:=seed) dr.symm (by rw[<-Uy];exact hS) hV Ti UB;obtain⟨bw,bA⟩:=KF bv;have bB:=O bw.encOk;have bT:=O bA.encOk;have b2:=O ad;have bb:∀c:aD,c.parent.length=32->c.confirm.length=32->(jl.info? 63).map (·.size)=jb (av c q).toArray.size:=λc h1 h2=>by rw[jD,fa c q h1 h2];exact fN
 have Su:jc ((jl.info? 63).map (·.size)=jb Y1.size):=O (by rw[ad];exact bb _ (by rw[(m8 ..).1];exact UB) (m8 ..).2);have b3:jc (∀W,aF (·<W.heap.size) W (mk1 g a m z init seed) q->jr jl 52 #[jk Y1] W λe w'=>∃v,e=jq v/\iV W w' (mk1 g a m z init seed) v/\jm W W w'):=O (λW hW=>by
  obtain⟨l1,l2,l3,l4⟩:=bB.lens;rw[ad];exact oX _ q W hW l1 l2 l3 l4)
 obtain⟨bC,bc⟩:=J (de sZ ((aJ (mk1 g a m z init seed)).take 8));obtain⟨We,bl⟩:=J ((bC.map v8).toArray);obtain⟨bd,bf⟩:=J (rM (gh g z init) bC);obtain⟨j,a4⟩:=J ((bd.map v8).toArray);have bm:bd.length=32:=by rw[bf];exact ra _ _
 have b4:jc (mk2 g a m z init seed={mk1 g a m z init seed with confirm:=bd}):=O (by rw[bf,bc];exact Bs ..);have cd:jc (∀W p R,aw (·<W.heap.size) W (vL ((aJ (mk1 g a m z init seed)).take 8)) (A p 8 R)->da W->jr jl 51 #[je ⟨#[99,111,109,109,105,116,32,98,111,100,121]⟩,A p 8 R] W λe w'=>e=jq (jk We)/\jm W W w'):=O (λW p R hv hW=>by
  rw[bl,bc];exact lL sZ G _ _ W hv (bB.take (by rw[ts];decide) 8) hW.num hW.start)
 have cm:jc (∀W,gy W->jr jl 50 #[jk SA,jk We] W λe w'=>e=jq (jk j)/\jm W W w'):=O (λW hW=>by
  rw[a4,bf,gz,bl];exact Nk _ _ (k7 _ _ _) (by rw[bc];exact et _ _) W hW)
 have bK:jc (j.size=32):=O (by rw[a4,jD,jw,bm]);have cn:jc (j.all (·.oneCell')=jp):=O (by rw[a4];exact ee _);have cp:jc ((jl.info? 23).map (·.size)=jb j.size):=O (by rw[bK];kernel_rfl);obtain⟨Y2,a3⟩:=J ((av (mk2 g a m z init seed) q).toArray);have cs:jc (lO Y1 39 j.toList=Y2):=O (by
  rw[a3,b4,a4,ad];exact L1 _ q bd (by rw[(m8 ..).1];exact UB) (m8 ..).2 bm)
 have R7:jc ((jl.info? 63).map (·.size)=jb Y2.size):=O (by rw[a3];exact bb _ (by rw[(ot ..).1];exact UB) (ot ..).2);have cu:jc (Y1.size=73):=O (by rw[ad,jD,fa _ _ (by rw[(m8 ..).1];exact UB) (m8 ..).2]);have cw:jc (Y2.size=73):=O (by rw[a3,jD,fa _ _ (by rw[(ot ..).1];exact UB) (ot ..).2]);have cx:jc (∀W,aF (·<W.heap.size) W (mk1 g a m z init seed) q->da W->jr jl 54 #[jk Y2] W λe w'=>∃D,e=jq (A (jb ⟨D,0,ja⟩) 32 32)/\aP w' (A (jb ⟨D,0,ja⟩) 32 32) (dJ (mk2 g a m z init seed))/\jm W W w'):=O (λW hC hW=>by
  rw[a3];exact FB _ q W (BU hC) bT hW)
 obtain⟨sr,bq⟩:∃y:jh,y=((lE X (dJ (mk2 g a m z init seed)):jf):jh):=⟨_,T⟩;obtain⟨ss,br⟩:∃y:jh,y=((lX X (dJ (mk2 g a m z init seed)):jf):jh):=⟨_,T⟩;have cy:jc (∀W v,aP W v (dJ (mk2 g a m z init seed))->da W->jr jl 53 #[I N (X:jh),v] W λe w'=>e=jq (j8 #[jk #[I N sr,I N ss],I N 0])/\jm W W w'):=O (λW v hv hW=>by
  rw[bq,br];exact PR X S4.1 S4.2 _ v (by unfold dJ;rw[et];decide) W hv hW)
 obtain⟨Y3,a5⟩:=J ((av (mkC g a X m z init seed) q).toArray);have cz:jc (mkC g a X m z init seed={mk2 g a m z init seed with r:=sr,s:=ss}):=O (by rw[bq,br];exact EN ..);have cA:jc (lO Y2 71 [I N sr,I N ss]=Y3):=O (by
  rw[a5,cz,a3];exact Rk _ q sr ss (by rw[(ot ..).1];exact UB) (ot ..).2)
 have Tf:jc ((jl.info? 63).map (·.size)=jb Y3.size):=O (by rw[a5];exact bb _ (by rw[(zR ..).1];exact UB) (zR ..).2);have cL:jc (Y3.all (·.oneCell')=jp):=O (by rw[a5,hq];exact nh _ _ _ _ _ _ _ _ _ _ _ _ _);have cX:=O a5;clear bk bh c9 c8 Va cc Sj bb bv bw bA hq ad a3 a5 bq br bm a4 bf bl bc e0 Ty Tj TG RO b0 b1 ce b2 bI hi
 go_upto_region 37 with fail
 refine jO ?_;refine iQ (λF=>F.heap[(t+1+1+1+1)]?=jb (jd Y1 63 (0,0))/\F.heap[(t+1+1+1+1+1)]?=jb (jd SA 64 (0,0))) 7 [(0,jp),(1,jp),(2,jo),(3,jp),(4,jo),(5,jo),(6,jp),(7,jo)] ag ag ag G (λ_ _ _ _ h=>h) ⟨ZT,Vi⟩ ?_;obtain⟨q0,RQ⟩:=J p5.drew;have d:=bz p5;rw[<-RQ]at d⊢;have P:=Z ZT d;have H:=Z Vi d;have V:=ac RX d;have ad:=O (bs.later d);clear d RQ ZT Vi RX bs
 (refine dY (v:=jk SA) T aj (λF U=>cI jI T ed T T U.2) (L ?_))
 (refine dY (v:=jk Y1) T aj (λF U=>cI jP T Su T T U.1) (L ?_))
 refine bE T (λK' u=>?_);go_simp;refine(b3 q0 (ad.mono (λk hk=>hk.2))).mono ?_;rintro e q1 ⟨v,rfl,a3,d⟩;obtain⟨gc,bb,rfl,SQ⟩:∃g R,v=A (jb ⟨g,0,ja⟩) 11 R/\11<=R:=by
  obtain⟨us,a4,-⟩:=a3;obtain⟨g,c,h1,h2,-⟩:=tF a4 G;exact⟨g,c,h1,h2⟩
 have bc:=O (a3.val 8 G).2;have ga:∀W,(Instr.sliceAt 107 (A (jb ⟨gc,0,ja⟩) 11 bb) ja (jb (I N 8)) ja).run jl W=.ok (A (jb ⟨gc,0,ja⟩) 8 bb) W:=λW=>uj 107 128 4 underlying107 uK gc 0 11 bb 8 Y W
 clear a3;have R0:=Z P d;have R5:=Z H d;have RD:=ac V d;have a4:=O (ad.later d);clear P H V ad;clear d;refine u _ _ ⟨R0,R5⟩ λ_=>?_
 clear u;refine L ?_;refine Cq ?_;refine bE T (λK' u=>?_);go_simp;refine(cd q1 _ _ bc.out (SP.dig.below RD)).mono ?_;rintro e q2 ⟨rfl,d⟩;have R3:=Z R0 d;have Se:=Z R5 d;have RE:=ac RD d;have a5:=O (a4.later d);clear R0 R5 RD a4 bc;clear d;refine u _ _ ⟨R3,Se⟩ λ_=>?_
 clear u;refine L ?_;refine bE T (λK' u=>?_);go_simp;refine(cm q2 (SP.below RE)).mono ?_;rintro e q3 ⟨rfl,d⟩;have Sl:=Z R3 d;have Ss:=Z Se d;have RI:=ac RE d;have bc:=O (a5.later d);clear R3 Se RE a5;clear d;refine u _ _ ⟨Sl,Ss⟩ λ_=>?_
 clear u;refine L ?_;refine Cq ?_;refine g6 T (λK' u=>?_);rw[jv aj];refine qf 23 _ _ T (t+1+1+1+1) 39 j T T (mW (o:=39) Sl.out (by rw[cu,bK];decide)) cp cn ?_;have s1:=wg j.toList 39 q3 Y1 Sl;rw[cs]at s1;have YZ:=O s1;have Y5:=O ((sB (k:=(t+1+1+1+1+1)) (b:=(t+1+1+1+1)) Y j.toList 39 q3).trans Ss);have Y4:=O (Below.cellsFrom RI (t+1+1+1+1) (by rw[HG];omega) j.toList 39);have a3:jc (aF (λk=>t+6<=k/\k<(q3.setCells (t+1+1+1+1) 39 j.toList).heap.size) (q3.setCells (t+1+1+1+1) 39 j.toList) (mk1 g a m z init seed) q):=O ((bc.keep (λk hk=>sB Y _ _ _)).mono (λk hk=>by rw[uW];exact hk));clear s1;generalize q3.setCells (t+1+1+1+1) 39 j.toList=r0 at YZ Y5 Y4 a3⊢;clear Sl Ss RI bc;refine u _ _ ?_;clear u;have P:=YZ;have H:=Y5;have V:=Y4;have ad:=a3;clear YZ Y5 Y4 a3;refine jL ?_
 go_upto_region 38 with fail
 refine j0 ?_;refine bH ?_;refine jQ T 63 _ T (t+1+1+1+1) T 63 Y2 (0,0) _ P.out jP T R7 ?_
 go_wp2_with fail
 refine(cx r0 (ad.mono (λk hk=>hk.2)) (SP.dig.below V)).mono ?_;rintro e r1 ⟨hO,rfl,cf,d⟩;have bc:=O cf;clear cf;have R0:=Z P d;have R5:=Z H d;have RD:=ac V d;have a4:=O (ad.later d);clear P H V ad;clear d
 go_wp2_with fail
 refine(cy r1 _ bc.out (SP.dig.below RD)).mono ?_;rintro e r2 ⟨rfl,d⟩;have R3:=Z R0 d;have Se:=Z R5 d;have RE:=ac RD d;have a5:=O (a4.later d);clear R0 R5 RD a4 bc;clear d
 go_wp2_with (refine jJ T λ_ u=>qf 61 _ _ T (t+1+1+1+1) 71 #[I N sr,I N ss] T T (mW (o:=71) (n:=2) R3.out (by rw[cw];decide)) ag (by simp[jH]) (u _ _ ?_))
 have s1:=wg [I N sr,I N ss] 71 r2 Y2 R3;rw[cA]at s1;have YZ:=O s1;have Y5:=O ((sB (k:=(t+1+1+1+1+1)) (b:=(t+1+1+1+1)) Y [I N sr,I N ss] 71 r2).trans Se);have Y4:=O (Below.cellsFrom RE (t+1+1+1+1) (by rw[HG];omega) [I N sr,I N ss] 71);have a3:jc (aF (λk=>t+6<=k/\k<(r2.setCells (t+1+1+1+1) 71 [I N sr,I N ss]).heap.size) (r2.setCells (t+1+1+1+1) 71 [I N sr,I N ss]) (mk1 g a m z init seed) q):=O ((a5.keep (λk hk=>sB Y _ _ _)).mono (λk hk=>by rw[uW];exact hk));clear s1;generalize r2.setCells (t+1+1+1+1) 71 [I N sr,I N ss]=r9 at YZ Y5 Y4 a3⊢;clear R3 Se RE a5;have UH:=YZ;have Vl:=Y5;have S6:=Y4;have a4:=a3;clear YZ Y5 Y4 a3
 go_upto_region 41 with fail
 refine jO ?_;refine bY (λF=>F.heap[(t+1+1+1+1)]?=jb (jd Y3 63 (0,0))/\F.heap[(t+1+1+1+1+1)]?=jb (jd SA 64 (0,0))) (.t 0 (.t 1 (.o 2 (.o 3 (.t 4 .done))))) ag ag ag G (λ_ _ _ _ h=>h) ⟨UH,Vl⟩ ?_;obtain⟨u0,RQ⟩:=J r9.drew;have d:=bz r9;rw[<-RQ]at d⊢;have Uz:=Z UH d;have UA:=Z Vl d;have TR:=ac S6 d;have a3:=O (a4.later d);clear d RQ UH Vl S6 a4;have P:=Uz;clear Uz;have H:=UA;clear UA;have V:=TR;clear TR;have ad:=a3;clear a3
 (refine aE (v:=jk Y3) T aj (λF U=>cI jP T Tf T T U.1) (L ?_))
 (refine aE (v:=jk SA) T aj (λF U=>cI jI T ed T T U.2) (L ?_))
 refine ar T (λK' u=>?_);rw[jv aj];refine jE 63 _ _ T (t+1+1+1+1) Y3 T T 63 _ P.out Tf T cL ?_;rw[dR P];refine u _ _ ⟨P,H⟩ λ_=>?_
 clear u;refine L ?_;refine ar T (λK' u=>?_);rw[jv aj];refine jE 64 _ _ T (t+1+1+1+1+1) SA T T 64 _ H.out ed T hD ?_;rw[dR H];refine u _ _ ⟨P,H⟩ λ_=>?_
 clear u;refine L ?_;refine aL ?_;refine jL ?_
 go_wp2_with fail
 refine jW (o9 T _ _ (t+1+1+1+1) (t+1+1+1+1+1) 63 64 Y3 SA (0,0) (0,0) _ _ T T P H jP T Tf jI T ed) T ⟨λ_=>⟨q,?_,?_⟩,λh=>jZ Vm h,V⟩
 ·rw[cX,gz,qx]
  rfl
 rw[qx];exact(Ph (x:=X) ad).mono (λk hk=>⟨by have h1:=HG.out;have h2:=hk.1;omega,hk.2⟩)
theorem tK:(jl.info? 128).map (·.size)=jb 4:=by kernel_rfl
theorem De(h:w.ownsRow b t R j m c)(B:ln M w a)(l:M<b):a.ownsRow b t R j m c:=by
 refine⟨h.1,?_⟩
 rcases h.2 with w'|⟨k,xs,d,f,w',i,v⟩
 ·exact .inl w'
 exact .inr ⟨k,xs,d,f,w',(B.block k Y).trans i,v⟩
theorem kh(n:jh)(w:jg):
 jr jl 153 #[I N n] w λe w'=>e=jq (jk #[I N 1,I N n,je ⟨#[]⟩,A ja 0 0])/\jm w w w':=by
 go_enter func153,ntmps153
 go_wp2_with fail
 exact ol (v:=jk #[I N 1,I N n,je ⟨#[]⟩,A ja 0 0]) (by simp[results,results153,go_sem]) T ⟨T,(j9 _ _).alloc (jn _) _⟩
theorem vZ(s:ByteArray)(w:jg):
 jr jl 154 #[je s] w λe w'=>e=jq (jk #[I N 2,I N 0,je s,A ja 0 0])/\jm w w w':=by
 go_enter func154,ntmps154
 go_wp2_with fail
 exact ol (v:=jk #[I N 2,I N 0,je s,A ja 0 0]) (by simp[results,results154,go_sem]) T ⟨T,(j9 _ _).alloc (jn _) _⟩
theorem mQ(p:jB jN)(n c:jf)(w:jg):
 jr jl 77 #[A p n c] w λe w'=>e=jq (jk #[I N 3,I N 0,je ⟨#[]⟩,A p n c])/\jm w w w':=by
 go_enter func77,ntmps77
 go_wp2_with fail
 exact ol (v:=jk #[I N 3,I N 0,je ⟨#[]⟩,A p n c]) (by simp[results,results77,go_sem]) T ⟨T,(j9 _ _).alloc (jn _) _⟩
theorem F1(l:af)(h:l.length=32)(w:jg):
 jr jl 155 #[jk (l.map v8).toArray] w λe w'=>e=jq (jk #[I N 2,I N 0,je (ofB l),A ja 0 0])/\jm w w w':=by
 obtain⟨a,b⟩:=J ((l.map v8).toArray);have i:aP ((w.alloc (jd a 23)).alloc (jd #[I N 0,I N 0,je ⟨#[]⟩,A ja 0 0] 128)) (A (jb ⟨w,0,ja⟩) 32 32) l:=by
  have c:=jt w (jd a 23);have d:=ai (w.alloc (jd a 23)) (jd #[I N 0,I N 0,je ⟨#[]⟩,A ja 0 0] 128);exact wU (az c d) (λj g f=>by rw[b,Nat.zero_add];simpa using f) h
 have c:=ai w (jd a 23);have j:=ai (w.alloc (jd a 23)) (jd #[I N 0,I N 0,je ⟨#[]⟩,A ja 0 0] 128);have d:=jt (w.alloc (jd a 23)) (jd #[I N 0,I N 0,je ⟨#[]⟩,A ja 0 0] 128);rw[jF]at d;have f:=mR i;rw[rV]at f;have n:a.size=32:=by rw[b,jD,jw];exact h
 rw[<-b];obtain⟨s,k⟩:=J (ofB l);rw[<-k]at f⊢;have g:=O (c.trans (j.mono c.size));have m:=O d;clear i b k c j d
 go_enter func155,ntmps155
 go_wp2_with fail
 refine(vZ s _).mono ?_;rintro e c ⟨rfl,b⟩;have d:=az m b;have i:=g.trans (b.mono g.size);clear f m g b
 go_wp2_with (refine jJ T λ_ b=>jE 128 _ _ T (w.heap.size+1) #[I N 2,I N 0,je s,A ja 0 0] T T 128 _ d tK T (by simp[jH]) (b _ _ ?_))
 have b:=j6 c (w.heap.size+1) _ #[I N 2,I N 0,je s,A ja 0 0] _ _ d;have f:=nz i (Nat.le_succ _) #[I N 2,I N 0,je s,A ja 0 0];generalize c.setRow (w.heap.size+1) #[I N 2,I N 0,je s,A ja 0 0]=g at b f⊢;exact ol (v:=jk #[I N 2,I N 0,je s,A ja 0 0]) (lo T _ _ (w.heap.size+1) 128 _ (0,0) _ T b j1 T tK) T ⟨T,f⟩
theorem Ab(l:ji jh)(v:jj)(w:jg)(hv:cV w v l)(hl:l.length<=1000000):
 jr jl 152 #[v] w λe w'=>∃S,e=jq (jk #[I N 3,I N 0,je ⟨#[]⟩,S])/\w'.ownsRow w 128 4 S l.length (ef l)/\jm w w w':=by
 obtain⟨p,c,rfl,hc,a⟩:=hv;obtain⟨n,b⟩:=J l.length;rw[<-b]at hc hl a⊢;have U:=O b;have V:=O a;clear b a
 go_enter func152,ntmps152
 go_wp2_with fail
 obtain⟨W,g⟩:=J ((w.alloc (jd #[I N 0,I N 0,je ⟨#[]⟩,A ja 0 0] 128)).alloc (jd #[I N 3,I N 0,je ⟨#[]⟩,A ja 0 0] 128));have h:=ai w (jd #[I N 0,I N 0,je ⟨#[]⟩,A ja 0 0] 128);have b:=jt w (jd #[I N 0,I N 0,je ⟨#[]⟩,A ja 0 0] 128);have i:=ai (w.alloc (jd #[I N 0,I N 0,je ⟨#[]⟩,A ja 0 0] 128)) (jd #[I N 3,I N 0,je ⟨#[]⟩,A ja 0 0] 128);have d:=jt (w.alloc (jd #[I N 0,I N 0,je ⟨#[]⟩,A ja 0 0] 128)) (jd #[I N 3,I N 0,je ⟨#[]⟩,A ja 0 0] 128);replace b:=az b i;rw[jF]at d;have j:=h.trans (i.mono h.size);rw[<-g]at b d j⊢;obtain⟨a,f⟩:=J w.heap.size;rw[<-f]at b d⊢;have K:=O f;have C:=O b;have k:=O d;have r:=O j;have m:jc (a+2<=W.heap.size):=O (by rw[g,jF,jF,f];exact jn _);clear h i g b d j f
 go_loopw [4] (λv wr=>∃(i:jf) (f:jj),v=I N i/\i<=n/\jc (wr.heap[a]?=jb (jd #[I N 0,I N 0,je ⟨#[]⟩,A ja 0 0] 128 (0,0)))/\jc (wr.heap[a+1]?=jb (jd #[I N 3,I N 0,je ⟨#[]⟩,f] 128 (0,0)))/\jc (wr.ownsRow (a+2) 128 4 f i (ef (l.take i)))/\jc (jm a w wr/\a+2<=wr.heap.size)) (λv _=>n-(jK v).toNat)
 case atStart=>exact⟨0,_,T,jX _,C,k,O (by simpa [ef,bU]using qw W (a+2) 128 4),O ⟨by rw[K];exact r,m⟩⟩
 clear C k r m;obtain⟨i,f,rfl,hi,M,u,D,j⟩:=hrel
 by_cases X:i<n
 ·have hd:=ao ((i:jh)<(n:jh))
  have Sm:=ao (i<n);obtain⟨g,o,rfl,k⟩:=V Y;have b:i<l.length:=by rw[<-U];exact X
  have z:l.getD i 0=l[i]:=by simp[kw,b]
  obtain⟨y,d⟩:=J (l.getD i 0);have E:=k i X;rw[<-d]at E;have h:g<a:=by rw[K];exact fb E
  have P:wr.cell? ⟨g,o+i,ja⟩=jb (I N y):=(bX (j.1.block g h)).trans E;have HT:jc (ef (l.take (i+1))=ef (l.take i)++[I N 1,I N y,je ⟨#[]⟩,A ja 0 0]):=O (by
   rw[qy b,zN,d,z])
  obtain⟨s,t,rfl⟩:=a8 D;have m:wr.drew.heap[a+1]?=jb (jd #[I N 3,I N 0,je ⟨#[]⟩,A s i t] 128 (0,0))/\wr.drew.cell? ⟨g,o+i,ja⟩=jb (I N y):=⟨u,P⟩;have x:=O (dx D (bz wr));have q:jc (jm a w wr.drew/\a+2<=wr.drew.heap.size):=O ⟨j.1.trans ((bz wr).mono (bL j.2)),j.2⟩;have B:jc (wr.drew.heap[a]?=jb (jd #[I N 0,I N 0,je ⟨#[]⟩,A ja 0 0] 128 (0,0))):=O M;have al:=O h;clear z d E P k b V M u D j h
  go_upto_region 5 with fail
  refine jO ?_;refine iQ (λb=>b.heap[a+1]?=jb (jd #[I N 3,I N 0,je ⟨#[]⟩,A s i t] 128 (0,0))/\b.cell? ⟨g,o+i,ja⟩=jb (I N y)) 10 [(0,jp),(1,jp),(2,jp),(3,jp),(4,jp),(5,jp),(6,jo),(7,jo),(8,jo),(9,jp),(10,jo)] ag ag ag G (λ_ _ _ _ h=>h) m ?_;generalize wr.drew=wa at m x q B⊢;refine cQ ?_
  (refine dY (v:=?_) T aj (λb d=>?_) ?_;rotate_left;(have k:=ae (i:=3) d.1 T;go_simp;with_reducible rfl);refine L ?_)
  iterate 3 refine cQ ?_
  (refine dY (v:=?_) T aj (λb d=>?_) ?_;rotate_left;(have k:=d.2;go_simp;with_reducible rfl);refine L ?_)
  refine bE T (λQ d=>?_);go_simp;refine(kh y wa).mono ?_;rintro e k ⟨rfl,b⟩;refine d _ _ ⟨az m.1 b,(bX (b.block g (fb m.2))).trans m.2⟩ λz=>?_
  have R:=aO x b;have r:jc (jm a w k/\a+2<=k.heap.size):=O ⟨q.1.trans (b.mono (bL q.2)),jA q.2 b.size⟩;have C:=Z B b;clear d b m x q B;refine L ?_;refine bE T (λQ d=>?_);go_simp;have b:=ai k (jd #[I N 1,I N y,je ⟨#[]⟩,A ja 0 0] 128);have x:=eU k [I N 1,I N y,je ⟨#[]⟩,A ja 0 0] 128 (0,0) 4 1 1 T (jn _);refine d _ _ ⟨az z.1 b,(bX (b.block g (fb z.2))).trans z.2⟩ λF=>?_
  replace x:cO (k.alloc (jd #[I N 1,I N y,je ⟨#[]⟩,A ja 0 0] 128)) (A (jb ⟨k,0,ja⟩) 1 1) 4 1 [I N 1,I N y,je ⟨#[]⟩,A ja 0 0]:=x;generalize k.alloc (jd #[I N 1,I N y,je ⟨#[]⟩,A ja 0 0] 128)=wc at b x F⊢;have m:=aO R b;have q:jc (jm a w wc/\a+2<=wc.heap.size):=O ⟨r.1.trans (b.mono (bL r.2)),jA r.2 b.size⟩;have H:=Z C b;have Sz:=O x;clear d b x z R r C;refine L ?_;refine bE T (λQ d=>?_);rw[jv aj];refine iT _ _ T (a+2) (A s i t) _ _ T m _ 1 _ T Sz (by simp[jH]) Y q.2 λv' x b=>?_
  obtain⟨z,B,rfl⟩:=a8 b.own;have aa:=eP F.1 b.grown (cJ m (.inr Y));have UF:=(bX (b.grown.block g (fb F.2) (λe=>cJ m (.inr (aA al)) e.symm))).trans F.2;have Tj:=O (eP H b.grown (cJ m (.inr Y)));have ad:=O b.own;have R:jc (jm a w x/\a+2<=x.heap.size):=O ⟨q.1.trans ((b.below m q.2).mono Y),jA q.2 b.grown.size⟩;refine d _ _ ⟨aa,UF⟩ λYR=>?_
  clear d F b m q H Sz aa UF;refine L ?_;refine cQ ?_;refine g6 T (λQ d=>?_);obtain⟨⟨vo,F⟩,f3,Q,b⟩:=cE (i:=3) (A z (i+1) B) YR.1 ax;go_simp;refine d _ _ ?_;have Vi:=O ((b.block a Y).trans Tj);have aa:jc ((x.setCell ⟨a+1,3,ja⟩ (A z (i+1) B)).heap[a+1]?=jb (jd #[I N 3,I N 0,je ⟨#[]⟩,A z (i+1) B] 128 (0,0))):=O Q;have U6:=O (De ad b Y);have RX:jc (jm a w (x.setCell ⟨a+1,3,ja⟩ (A z (i+1) B))/\a+2<=(x.setCell ⟨a+1,3,ja⟩ (A z (i+1) B)).heap.size):=O ⟨R.1.trans (b.below Y),by rw[b.size];exact R.2⟩;generalize x.setCell ⟨a+1,3,ja⟩ (A z (i+1) B)=wz at Vi aa U6 RX⊢;clear d F f3 Q b ad R Tj;refine jL ?_
  go_wp2_with fail
  refine⟨⟨i+1,_,by go_num,by omega,Vi,aa,O (by rw[HT];exact U6),RX⟩,?_⟩;simp only[jK];omega
 have hd:=ap ((i:jh)<(n:jh));have Sm:=ap (i<n);obtain rfl:i=n:=Y;have g:=j6 wr a _ #[I N 3,I N 0,je ⟨#[]⟩,f] _ _ M.out;have o:∀k,k≠a->(wr.setRow a #[I N 3,I N 0,je ⟨#[]⟩,f]).heap[k]?=wr.heap[k]?:=λk hk=>jy wr a k _ hk
 have b:=nz j.1 (jn _) #[I N 3,I N 0,je ⟨#[]⟩,f];have x:(wr.setRow a #[I N 3,I N 0,je ⟨#[]⟩,f]).ownsRow (a+2) 128 4 f i (ef l):=by
  have h:=De D (⟨b.os.trans j.1.os.symm,b.tape.trans j.1.tape.symm,b.output.trans j.1.output.symm,by simp[p6],o⟩:ln a wr (wr.setRow a #[I N 3,I N 0,je ⟨#[]⟩,f])) Y;rw[j5 (by rw[<-U];exact jn _)]at h;exact h
 have H:=O g;have q:=O b;have m:=O x;have E:=ae (i:=0) u T;have P:=ae (i:=1) u T;have h:=ae (i:=2) u T;have F:=ae (i:=3) u T;obtain⟨s,t,rfl⟩:=a8 D;clear g o b x
 go_wp2_with (refine jJ T λ_ d=>jE 128 _ _ T a #[I N 3,I N 0,je ⟨#[]⟩,A s i t] T T 128 _ M.out tK T (by simp[jH]) (d _ _ ?_))
 generalize wr.setRow a #[I N 3,I N 0,je ⟨#[]⟩,A s i t]=b at H q m⊢;exact ol (v:=jk #[I N 3,I N 0,je ⟨#[]⟩,A s i t]) (lo T _ _ a 128 _ (0,0) _ T H j1 T tK) T ⟨_,T,lV m (aA K),by have:=K.out;subst this;exact q⟩
structure Bls(M:jf)(w0 wr:jg)(l:ji Val)(a:jj)(b:ji jj):Prop where
 own:wr.ownsRow M 128 4 a l.length (bU l b)
 kids:aC (λg=>M<=g/\g<wr.heap.size/\a.ownBlock≠jb g) wr l b
 low:jm M w0 wr
 sz:M<=wr.heap.size
theorem Bls.start(W:jg):Bls W.heap.size W (W.alloc (jd #[] 128)) [] (A (jb ⟨W,0,ja⟩) 0 0) []:=
 ⟨kz W [] 128 4 0 W.heap.size (jn _) rfl (jX _),by rw[aC],ai W _,by rw[jF];omega⟩
theorem Bls.later(h:Bls b w a r j c)(wr:jm a a i):Bls b w i r j c:=
 ⟨dx h.own wr,aC.mono (λg M=>⟨M.1,jz M.2.1 wr.size,M.2.2⟩) r c (aC.keep (λg M=>wr.block g M.2.1) r c h.kids),h.low.trans (wr.mono h.sz),jA h.sz wr.size⟩
theorem Bls.push{w0 j:jg}{l:ji Val}{i k:jj}(h:Bls M w0 a l i c){x:Val}{d:jj}
 (o:aw (λg=>M<=g/\g<a.heap.size/\i.ownBlock≠jb g) a x d) (f:bS M 128 4 a j i k (l.length+1) (bU l c++eS x d)):Bls M w0 j (l++[x]) k (c++[d]):=by
 have p:=h.kids.len;have m:∀g,(M<=g/\g<a.heap.size/\i.ownBlock≠jb g)->j.heap[g]?=a.heap[g]?:=λg b=>f.grown.block g b.2.1 (λe=>b.2.2 e.symm)
 have n:∀g,(M<=g/\g<a.heap.size/\i.ownBlock≠jb g)->(M<=g/\g<j.heap.size/\k.ownBlock≠jb g):=λg b=>
  ⟨b.1,jz b.2.1 f.grown.size,f.ne b.2.1 b.2.2⟩
 refine⟨?_,aC.append (aC.mono n _ _ (aC.keep m _ _ h.kids)) (aC.one (aw.mono n _ _ (aw.keep m _ _ o))),h.low.trans (f.below h.own h.sz),jA h.sz f.grown.size⟩;have e:bU (l++[x]) (c++[d])=bU l c++eS x d:=by
  rw[oH l [x] c [d] p];simp[bU]
 rw[e,mT];exact f.own
theorem Bls.fresh(h:Bls b w a r j c)(o:jm a a i){e:jM}{sz n:jf}{d:jj}{xs:ji jj}(M:i.ownsRow a e sz d n xs):
 ∀g,d.ownBlock=jb g->b<=g/\g<i.heap.size/\j.ownBlock≠jb g:=λg f=>by
 obtain⟨k,m⟩:=M.lt g f;exact⟨jA h.sz k,m,λe=>by have:=(h.own.lt g e).2;omega⟩
theorem Bls.fin(h:Bls b w a r j c):aw (λg=>b<=g/\g<a.heap.size) a (vL r) j:=by
 rw[vL,aw];exact⟨c,ay.of_own h.own (λg wr=>h.own.lt g wr),aC.mono (λg wr=>⟨wr.1,wr.2.1⟩) r c h.kids⟩
theorem tw{Q S:Prop}(k:S)(h:S->Q:=by intro k;refine aE (v:=?_) rfl aj (λW' hS=>?_) ?_;rotate_left;(have e0:=ae (i:=0) hS.1 rfl;have e1:=ae (i:=1) hS.1 rfl;have e2:=ae (i:=2) hS.1 rfl;have e3:=ae (i:=3) hS.1 rfl;go_simp;with_reducible rfl);refine L ?_;exact k):Q:=h k
theorem yz{Q S:Prop}(k:S)(h:S->Q:=by intro k;refine aE (v:=?_) rfl aj (λW' hS=>?_) ?_;rotate_left;(have e0:=ae (i:=0) hS.1 rfl;have e1:=ae (i:=1) hS.1 rfl;have e2:=ae (i:=2) hS.1 rfl;go_simp;with_reducible rfl);refine L ?_;exact k):Q:=h k
theorem CZ(c:aD)(q:CQ)(w:jg)(f:aF (·<w.heap.size) w c q)(l1:c.chg.length<=1000000)(l2:c.path.length<=1000000)(l3:c.box.length<=1000000)(l4:c.wel.length<=1000000):
 jr jl 78 #[jk (av c q).toArray] w λe w'=>∃v,e=jq v/\iV w w' c v/\jm w w w':=by
 have d:cZ (w.alloc (jd (av c q).toArray 63)) w.heap.size c q:=⟨jt w _,f.plen,f.clen⟩;have g:=ai w (jd (av c q).toArray 63);have u:=O f;obtain⟨RZ,h⟩:=J ((av c q).toArray);rw[<-h]at d g⊢;have UO:=O h;obtain⟨b,i⟩:=J w.heap.size;rw[<-i]at d;have TJ:=O i;obtain⟨W1,j⟩:=J (w.alloc (jd RZ 63));rw[<-j]at d g;have z:=O d;have p:=O g;have k:=O j;have B:jc (b<W1.heap.size):=O (js.1 d.blk).1;clear d g f h i j
 go_enter func78,ntmps78
 go_upto_region 1 with fail
 rw[<-k,<-TJ];clear k;obtain⟨c0,c1,UP,Ug,WY,VH,VI,ZB,ZE⟩:=fk c q u.plen u.clen;have Zj:=O Ug;obtain⟨ZD,p1,q1,ad,Zc,bc,Ts⟩:=u.chg;obtain⟨K,Wk⟩:=J c.chg.length;rw[ad]at Zj;rw[<-Wk]at Zj l1 Zc;have Uw:=O Wk;have C:=O Ts;clear c0 c1 UP Ug WY VH VI ZB ZE ZD ad bc Wk Ts;obtain⟨M,d⟩:=J W1.heap.size;have SP:jc (Bls M W1 (W1.alloc (jd #[] 128)) [] (A (jb ⟨M,0,ja⟩) 0 0) []):=O (by rw[d];exact Bls.start W1);have Tr:=O d;have bA:jc (b<M):=O (by rw[d];exact B);have bu:jc (w.heap.size<=M):=O (by rw[d];exact p.size);clear d
 go_wp2_with fail
 rw[<-Tr]
 go_loopw [3,4] (λv3 v wr=>∃(i:jf) (vr:jj) (us:ji jj),vr=v3/\v=I N i/\i<=K/\jc (Bls M W1 wr ((c.chg.take i).map ak.val) vr us)) (λ_ v _=>K-(jK v).toNat)
 case atStart=>exact⟨0,_,[],T,T,jX _,SP⟩
 clear SP;obtain⟨i,vr,us,rfl,rfl,hi,m⟩:=hrel;have a3:jc (cZ wr b c q):=O (z.keep (m.low.block b bA));have cL:=a3.get Zj
 by_cases a4:i<K
 ·have hd:=ao ((i:jh)<(K:jh))
  have Sm:=ao (i<K);obtain⟨g,o,rfl,al,a5⟩:=C (aA Uw);obtain⟨x,r,Vu⟩:=ox (l:=c.chg) (j:=i) (by rw[<-Uw];exact a4);have TB:wr.heap[g]?=w.heap[g]?:=(m.low.block g (jz al bu)).trans (p.block g al);have P:=λk hk=>(bX (a:=⟨g,o+(i*5+k),ja⟩) TB).trans (a5 (i*5+k) _ ((flat_get ak.cells 5 (λ_=>rfl) c.chg i k x r hk).trans (show x.cells[k]?=jb (x.cells.getD k (I N 0)) by have:x.cells.length=5:=T;simp[kw,jY (show k<x.cells.length by omega)])))
  have d0:wr.cell? ⟨g,o+i*5,ja⟩=jb (I N x.k):=P 0 G;have d1:wr.cell? ⟨g,o+i*5+1,ja⟩=jb (I N x.d):=P 1 G;have d2:wr.cell? ⟨g,o+i*5+2,ja⟩=jb (I N x.p):=P 2 G;have s:wr.cell? ⟨g,o+i*5+3,ja⟩=jb (I N x.v):=P 3 G;have d:wr.cell? ⟨g,o+i*5+4,ja⟩=jb (I N x.c):=P 4 G;have T7:=O Vu;clear TB P a5 r Vu al;obtain⟨pv,cv,Q⟩:=a8 m.own;have au:((c.chg.take i).map ak.val).length=i:=by rw[jw,kn,<-Uw];omega
  rw[au]at Q;have Wm:=O au;subst Q;clear au
  go_upto_region 6 with fail
  obtain⟨bx,a1⟩:=J wr.heap.size;have aa:=jt wr (jd #[I N x.k,I N x.d,I N x.p,I N x.v,I N x.c] 47);have U:=ai wr (jd #[I N x.k,I N x.d,I N x.p,I N x.v,I N x.c] 47);have Uv:jc ((jU pv i cv).ownBlock≠jb bx):=O (cJ m.own (.inl (jR a1.symm)));rw[<-a1]at aa⊢;obtain⟨D,Un⟩:=J (wr.alloc (jd #[I N x.k,I N x.d,I N x.p,I N x.v,I N x.c] 47));rw[<-Un]at aa U⊢;have E:jc (Bls M W1 D ((c.chg.take i).map ak.val) (A pv i cv) us):=O (m.later U);have HE:=O aa;clear aa U Un a1 m a3 cL d0 d1 d2 s d;have h:=ae (i:=0) HE T;have n:=ae (i:=1) HE T;have y:=ae (i:=2) HE T;have F:=ae (i:=3) HE T;have H:=ae (i:=4) HE T;have d:cV (D.alloc (jd #[I N x.k,I N x.d,I N x.p,I N x.v,I N x.c] 3)) (A (jb ⟨D,0,ja⟩) 5 5) [x.k,x.d,x.p,x.v,x.c]:=D8 D [x.k,x.d,x.p,x.v,x.c] 3;have t:=O d;have f:=O (ai D (jd #[I N x.k,I N x.d,I N x.p,I N x.v,I N x.c] 3));clear d
  go_wp2_with fail
  obtain⟨R,d⟩:=J (D.alloc (jd #[I N x.k,I N x.d,I N x.p,I N x.v,I N x.c] 3));rw[<-d]at t f⊢;clear d h n y F H;refine(Ab _ _ R t ax).mono ?_;rintro e h ⟨S,rfl,y,d⟩;obtain⟨n,V,rfl⟩:=a8 y;have F:jc (h.ownsRow D 128 4 (A n 5 V) 5 (ef [x.k,x.d,x.p,x.v,x.c])):=O (lV y f.size);have H:=ac f d;clear y d t f;have U:=ai h (jd #[I N 3,I N 0,je ⟨#[]⟩,A n 5 V] 128);have t:=aO F U;have y:=ac H U;have Sk:=O (E.later y);have ba:=O (mU (l:=[x.k,x.d,x.p,x.v,x.c]) t (E.fresh y t));have Sz:jc (cO (h.alloc (jd #[I N 3,I N 0,je ⟨#[]⟩,A n 5 V] 128)) (A (jb ⟨h,0,ja⟩) 1 1) 4 1 [I N 3,I N 0,je ⟨#[]⟩,A n 5 V]):=O (eU h [I N 3,I N 0,je ⟨#[]⟩,A n 5 V] 128 (0,0) 4 1 1 T (jn _));clear U F H E
  go_wp2_with (at_builtin;refine Hid.out ?_)
  refine O ?_;refine jJ T λ_ f=>iT _ _ T M (A pv i cv) _ _ T Sk.own _ 1 _ T Sz (by simp[jH]) (by rw[Wm];omega) Sk.sz λv' wf HG=>f _ _ ?_
  have RV:=HG.own;rw[Wm]at RV;obtain⟨pn,cn,rfl⟩:=a8 RV;have YN:=O (Sk.push (x:=ak.val x) ba HG);clear f RV HG Sk ba t y Sz
  go_wp2_with fail
  refine⟨⟨i+1,_,_,T,by go_num,by omega,by rw[T7,lw];exact YN⟩,?_⟩;simp only[jK];omega
 have hd:=ap ((i:jh)<(K:jh));have Sm:=ap (i<K);have bb:c.chg.take i=c.chg:=j5 (by rw[<-Uw];omega);replace m:jc (Bls M W1 wr (c.chg.map ak.val) vr us):=O (by rw[<-bb];exact m);clear bb C;obtain⟨WF,WE,Q⟩:=a8 m.own;rw[jw,<-Uw]at Q;subst Q;have Vr:=O m.fin;have S:jc (jm w w wr):=O (p.trans (m.low.mono bu));have bs:jc (b<wr.heap.size):=O (jz bA m.sz);have bM:jc (M<=wr.heap.size):=O m.sz
 go_upto_region 7 with fail
 clear m Zj cL hi a4 hd Sm z p B;rename jg=>W2;rename jc (cZ W2 b c q)=>ak3;obtain⟨c0,c1,UP,Ug,WY,VH,VI,ZB,ZE⟩:=fk c q u.plen u.clen;have Zj:=O VH;obtain⟨ub,⟨ZD,p1,q1,ad,Zc,bc,Ts⟩,bn⟩:=u.box;have bN:=O bn;clear bn;obtain⟨R,Wk⟩:=J c.box.length;rw[ad]at Zj;rw[<-Wk]at Zj l3 Zc;have VD:=O Wk;have R3:=O Ts;clear c0 c1 UP Ug WY VH VI ZB ZE ZD ad bc Wk Ts;obtain⟨W,h⟩:=J W2.heap.size;have SP:jc (Bls W W2 (W2.alloc (jd #[] 128)) [] (A (jb ⟨W,0,ja⟩) 0 0) []):=O (by rw[h];exact Bls.start W2);have Ta:=O h;have bB:jc (b<W):=O (by rw[h];exact bs);have br:jc (w.heap.size<=W):=O (by rw[h];exact S.size);clear h
 go_wp2_with fail
 rw[<-Ta]
 go_loopw [6,7] (λv3 v wr=>∃(i:jf) (vr:jj) (us:ji jj),vr=v3/\v=I N i/\i<=R/\jc (Bls W W2 wr ((c.box.take i).map Bx.val) vr us)) (λ_ v _=>R-(jK v).toNat)
 case atStart=>exact⟨0,_,[],T,T,jX _,SP⟩
 clear SP;obtain⟨i,vr,us,rfl,rfl,hi,m⟩:=hrel;have a3:jc (cZ wr b c q):=O (ak3.keep (m.low.block b bB));have cL:=a3.get Zj
 by_cases a4:i<R
 ·have hd:=ao ((i:jh)<(R:jh))
  have Sm:=ao (i<R);obtain⟨g,o,rfl,al,a5⟩:=R3 (aA VD);obtain⟨x,r,Vu⟩:=ox (l:=c.box) (j:=i) (by rw[<-VD];exact a4);have TB:wr.heap[g]?=w.heap[g]?:=(m.low.block g (jz al br)).trans (S.block g al);obtain⟨ux,VT,SZ⟩:=bN.at (i:=i) (b:=x.body) (by rw[mb,r];rfl);obtain⟨z,B,rfl⟩:=SZ.form;have P:=λk hk=>(bX (a:=⟨g,o+(i*4+k),ja⟩) TB).trans (a5 (i*4+k) _ ((pD Bx.cells 4 (λ_ _=>rfl) c.box ub i k x _ r VT hk).trans (show(x.cells (A z x.body.length B))[k]?=jb ((x.cells (A z x.body.length B)).getD k (I N 0)) by have:(x.cells (A z x.body.length B)).length=4:=T;simp[kw,jY (show k<(x.cells (A z x.body.length B)).length by omega)])))
  have d0:wr.cell? ⟨g,o+i*4,ja⟩=jb (I N x.node):=P 0 G;have d1:wr.cell? ⟨g,o+i*4+1,ja⟩=jb (I N x.lev):=P 1 G;have d2:wr.cell? ⟨g,o+i*4+2,ja⟩=jb (I N x.u):=P 2 G;have s:wr.cell? ⟨g,o+i*4+3,ja⟩=jb (A z x.body.length B):=P 3 G;clear VT;have T7:=O Vu;clear TB P a5 r Vu al;obtain⟨pv,cv,Q⟩:=a8 m.own;have au:((c.box.take i).map Bx.val).length=i:=by rw[jw,kn,<-VD];omega
  rw[au]at Q;have Wm:=O au;subst Q;clear au
  go_upto_region 12 with fail
  obtain⟨bx,a1⟩:=J wr.heap.size;have aa:=jt wr (jd #[I N x.node,I N x.lev,I N x.u,A z x.body.length B] 54);have U:=ai wr (jd #[I N x.node,I N x.lev,I N x.u,A z x.body.length B] 54);have Uv:jc ((jU pv i cv).ownBlock≠jb bx):=O (cJ m.own (.inl (jR a1.symm)));rw[<-a1]at aa⊢;obtain⟨D,Un⟩:=J (wr.alloc (jd #[I N x.node,I N x.lev,I N x.u,A z x.body.length B] 54));rw[<-Un]at aa U⊢;have E:jc (Bls W W2 D ((c.box.take i).map Bx.val) (A pv i cv) us):=O (m.later U);have HE:=O aa;clear aa U Un a1 m a3 cL d0 d1 d2 s;have bv:=O SZ;have Tc:jc (D.drew.heap[bx]?=jb (jd #[I N x.node,I N x.lev,I N x.u,A z x.body.length B] 54 (0,0))):=HE;have a2:jc (aP D.drew (A z x.body.length B) x.body):=O ((SZ.keep λg s=>(E.low.block g (jz s br)).trans (S.block g s)).bytes);replace E:=O (E.later (bz D));clear SZ HE;refine jO ?_;refine bY (λt=>t.heap[bx]?=jb (jd #[I N x.node,I N x.lev,I N x.u,A z x.body.length B] 54 (0,0))/\aP t (A z x.body.length B) x.body) (.t 0 (.t 1 (.t 2 (.t 4 (.t 5 (.t 7 (.t 8 (.t 9 (.t 11 (.t 12 (.t 13 (.t 14 (.o 3 (.o 6 (.o 10 (.o 15 (.o 16 (.o 17 (.o 18 (.o 19 (.t 20 .done))))))))))))))))))))) ag ag ag G (λ_ _ _ _ h=>h) ⟨Tc,a2⟩ ?_;generalize D.drew=X at Tc a2 E⊢;have SJ:jc (jm X X X):=O (j9 _ _);iterate 2 refine bi ?_
  refine tw ?_;refine bi ?_;refine tw ?_;iterate 2 refine bi ?_
  refine tw ?_;iterate 2 refine bi ?_
  refine tw ?_
  (refine aE (v:=?_) T aj (λt C=>?_) ?_;rotate_left;(have kc:=mR C.2;rw[rV]at kc;go_simp;with_reducible rfl);refine L ?_)
  refine ar T (λy f=>?_);go_simp;refine(kh x.node X).mono ?_;rintro e x1 ⟨rfl,d⟩;have UI:=Z Tc d;have bd:=O (a2.below d);have Sc:=ac SJ d;clear Tc a2 SJ;clear d;refine f _ _ ⟨UI,bd⟩ λ_=>?_
  clear f;refine L ?_;refine ar T (λy f=>?_);go_simp;refine(kh x.lev x1).mono ?_;rintro e x2 ⟨rfl,d⟩;have Sg:=Z UI d;have bf:=O (bd.below d);have Sy:=ac Sc d;clear UI bd Sc;clear d;refine f _ _ ⟨Sg,bf⟩ λ_=>?_
  clear f;refine L ?_;refine ar T (λy f=>?_);go_simp;refine(kh x.u x2).mono ?_;rintro e x3 ⟨rfl,d⟩;have U8:=Z Sg d;have bg:=O (bf.below d);have S2:=ac Sy d;clear Sg bf Sy;clear d;refine f _ _ ⟨U8,bg⟩ λ_=>?_
  clear f;refine L ?_;refine ar T (λy f=>?_);go_simp;refine(vZ (ofB x.body) x3).mono ?_;rintro e x4 ⟨rfl,d⟩;have Vm:=Z U8 d;have bh:=O (bg.below d);have UK:=ac S2 d;clear U8 bg S2;clear d;refine f _ _ ⟨Vm,bh⟩ λ_=>?_
  clear f;refine L ?_;refine ar T (λy f=>?_);go_simp;have d:=ai x4 (jd #[I N 1,I N x.node,je ⟨#[]⟩,A ja 0 0,I N 1,I N x.lev,je ⟨#[]⟩,A ja 0 0,I N 1,I N x.u,je ⟨#[]⟩,A ja 0 0,I N 2,I N 0,je (ofB x.body),A ja 0 0] 128);have F:=jt x4 (jd #[I N 1,I N x.node,je ⟨#[]⟩,A ja 0 0,I N 1,I N x.lev,je ⟨#[]⟩,A ja 0 0,I N 1,I N x.u,je ⟨#[]⟩,A ja 0 0,I N 2,I N 0,je (ofB x.body),A ja 0 0] 128);obtain⟨x5,r⟩:=J (x4.alloc (jd #[I N 1,I N x.node,je ⟨#[]⟩,A ja 0 0,I N 1,I N x.lev,je ⟨#[]⟩,A ja 0 0,I N 1,I N x.u,je ⟨#[]⟩,A ja 0 0,I N 2,I N 0,je (ofB x.body),A ja 0 0] 128));have H:=kz x4 [I N 1,I N x.node,je ⟨#[]⟩,A ja 0 0,I N 1,I N x.lev,je ⟨#[]⟩,A ja 0 0,I N 1,I N x.u,je ⟨#[]⟩,A ja 0 0,I N 2,I N 0,je (ofB x.body),A ja 0 0] 128 4 4 X.heap.size UK.size T G;replace H:(x4.alloc (jd #[I N 1,I N x.node,je ⟨#[]⟩,A ja 0 0,I N 1,I N x.lev,je ⟨#[]⟩,A ja 0 0,I N 1,I N x.u,je ⟨#[]⟩,A ja 0 0,I N 2,I N 0,je (ofB x.body),A ja 0 0] 128)).ownsRow X.heap.size 128 4 (A (jb ⟨x4,0,ja⟩) 4 4) 4 [I N 1,I N x.node,je ⟨#[]⟩,A ja 0 0,I N 1,I N x.lev,je ⟨#[]⟩,A ja 0 0,I N 1,I N x.u,je ⟨#[]⟩,A ja 0 0,I N 2,I N 0,je (ofB x.body),A ja 0 0]:=H;rw[<-r]at H;obtain⟨n,bo⟩:∃p:jB jN,p=jb ⟨x4,0,ja⟩:=⟨_,T⟩;rw[<-bo]at H⊢;clear bo;rw[<-r]at d F⊢;have Ui:=Z Vm d;have bk:=O (bh.below d);have VP:=ac UK d;clear Vm bh UK;have bl:=O F;clear F r d;refine f _ _ ⟨Ui,bk⟩ λ_=>?_
  clear f;have U6:=O H;clear H bl;refine L ?_;refine ar T (λy f=>?_);go_simp;refine(mQ n 4 4 x5).mono ?_;rintro e x6 ⟨rfl,d⟩;have WK:=Z Ui d;have bl:=O (bk.below d);have Zl:=ac VP d;have bm:=aO U6 d;clear Ui bk VP U6;clear d;refine f _ _ ⟨WK,bl⟩ λ_=>?_
  clear f;refine L ?_;refine ar T (λy f=>?_);go_simp;have d:=ai x6 (jd #[I N 3,I N 0,je ⟨#[]⟩,A n 4 4] 128);have F:=jt x6 (jd #[I N 3,I N 0,je ⟨#[]⟩,A n 4 4] 128);obtain⟨x7,r⟩:=J (x6.alloc (jd #[I N 3,I N 0,je ⟨#[]⟩,A n 4 4] 128));have TV:cO (x6.alloc (jd #[I N 3,I N 0,je ⟨#[]⟩,A n 4 4] 128)) (A (jb ⟨x6,0,ja⟩) 1 1) 4 1 [I N 3,I N 0,je ⟨#[]⟩,A n 4 4]:=eU x6 [I N 3,I N 0,je ⟨#[]⟩,A n 4 4] 128 (0,0) 4 1 1 T (jn _);rw[<-r]at TV;have Sz:=O TV;clear TV;rw[<-r]at d F⊢;have Yf:=Z WK d;have bw:=O (bl.below d);have YE:=ac Zl d;have bq:=aO bm d;clear WK bl Zl bm;have bC:=O F;clear F r d;refine f _ _ ⟨Yf,bw⟩ λ_=>?_
  clear f;clear bC;refine L ?_;refine ar T (λy f=>?_);rw[jv aj];have Sk:=O (E.later YE);have ba:jc (aw (λg=>W<=g/\g<x7.heap.size/\(jU pv i cv).ownBlock≠jb g) x7 (Bx.val x) (A n 4 4)):=O (by
   unfold Bx.val;rw[vL,aw];refine⟨qm 4 ci,ay.of_own bq (E.fresh YE bq),?_⟩;exact aC.cons (eD _) (aC.cons (eD _) (aC.cons (eD _) (aC.cons (mu _) (aC.nil)))))
  refine iT _ _ T W (A pv i cv) _ _ T Sk.own _ 1 _ T Sz (by simp[jH]) (by rw[Wm];omega) Sk.sz λv' wf HG=>?_
  have RV:=HG.own;rw[Wm]at RV;obtain⟨pn,cn,rfl⟩:=a8 RV;have YN:=O (Sk.push (x:=Bx.val x) ba HG);refine f _ _ ⟨eP Yf HG.grown Uv,((bv.keep λg s=>(YN.low.block g (jz s br)).trans (S.block g s)).bytes)⟩ λ_=>?_
  clear f RV HG Sk ba Sz bq YE Yf bw E;refine L ?_;refine bi ?_;refine jL ?_
  go_wp2_with fail
  refine⟨⟨i+1,_,_,T,by go_num,by omega,by rw[T7,lw];exact YN⟩,?_⟩;simp only[jK];omega
 have hd:=ap ((i:jh)<(R:jh));have Sm:=ap (i<R);have bb:c.box.take i=c.box:=j5 (by rw[<-VD];omega);replace m:jc (Bls W W2 wr (c.box.map Bx.val) vr us):=O (by rw[<-bb];exact m);clear bb R3;obtain⟨Yb,WZ,Q⟩:=a8 m.own;rw[jw,<-VD]at Q;subst Q;have bw:=O m.fin;have RI:jc (jm w w wr):=O (S.trans (m.low.mono br));have bC:jc (b<wr.heap.size):=O (jz bB m.sz);have bI:jc (W<=wr.heap.size):=O m.sz;replace Vr:jc (aw (λg=>M<=g/\g<W) wr (vL (c.chg.map ak.val)) (A WF K WE)):=O (aw.keep (λg s=>m.low.block g s.2) _ _ (by have h:=Vr.out;rw[<-Ta]at h;exact h))
 go_upto_region 13 with fail
 clear m Zj cL hi a4 hd Sm ak3 S bs;rename jg=>W3;rename jc (cZ W3 b c q)=>ak6;obtain⟨c0,c1,UP,Ug,WY,VH,VI,ZB,ZE⟩:=fk c q u.plen u.clen;have Zj:=O VI;obtain⟨ub,⟨ZD,p1,q1,ad,Zc,bc,Ts⟩,bn⟩:=u.wel;have bO:=O bn;clear bn;obtain⟨S,Wk⟩:=J c.wel.length;rw[ad]at Zj;rw[<-Wk]at Zj l4 Zc;have bn:=O Wk;have Sl:=O Ts;clear c0 c1 UP Ug WY VH VI ZB ZE ZD ad bc Wk Ts;obtain⟨M3,bq⟩:=J W3.heap.size;have SP:jc (Bls M3 W3 (W3.alloc (jd #[] 128)) [] (A (jb ⟨M3,0,ja⟩) 0 0) []):=O (by rw[bq];exact Bls.start W3);have Tq:=O bq;have bK:jc (b<M3):=O (by rw[bq];exact bC);have bs:jc (w.heap.size<=M3):=O (by rw[bq];exact RI.size);clear bq
 go_wp2_with fail
 rw[<-Tq]
 go_loopw [9,10] (λv3 v wr=>∃(i:jf) (vr:jj) (us:ji jj),vr=v3/\v=I N i/\i<=S/\jc (Bls M3 W3 wr ((c.wel.take i).map Wl.val) vr us)) (λ_ v _=>S-(jK v).toNat)
 case atStart=>exact⟨0,_,[],T,T,jX _,SP⟩
 clear SP;obtain⟨i,vr,us,rfl,rfl,hi,m⟩:=hrel;have a3:jc (cZ wr b c q):=O (ak6.keep (m.low.block b bK));have cL:=a3.get Zj
 by_cases a4:i<S
 ·have hd:=ao ((i:jh)<(S:jh))
  have Sm:=ao (i<S);obtain⟨g,o,rfl,al,a5⟩:=Sl (aA bn);obtain⟨x,r,Vu⟩:=ox (l:=c.wel) (j:=i) (by rw[<-bn];exact a4);have TB:wr.heap[g]?=w.heap[g]?:=(m.low.block g (jz al bs)).trans (RI.block g al);obtain⟨ux,VT,SZ⟩:=bO.at (i:=i) (b:=x.body) (by rw[mb,r];rfl);obtain⟨z,B,rfl⟩:=SZ.form;have P:=λk hk=>(bX (a:=⟨g,o+(i*3+k),ja⟩) TB).trans (a5 (i*3+k) _ ((pD Wl.cells 3 (λ_ _=>rfl) c.wel ub i k x _ r VT hk).trans (show(x.cells (A z x.body.length B))[k]?=jb ((x.cells (A z x.body.length B)).getD k (I N 0)) by have:(x.cells (A z x.body.length B)).length=3:=T;simp[kw,jY (show k<(x.cells (A z x.body.length B)).length by omega)])))
  have d0:wr.cell? ⟨g,o+i*3,ja⟩=jb (I N x.dev):=P 0 G;have d1:wr.cell? ⟨g,o+i*3+1,ja⟩=jb (I N x.u):=P 1 G;have d2:wr.cell? ⟨g,o+i*3+2,ja⟩=jb (A z x.body.length B):=P 2 G;clear VT;have T7:=O Vu;clear TB P a5 r Vu al;obtain⟨pv,cv,Q⟩:=a8 m.own;have au:((c.wel.take i).map Wl.val).length=i:=by rw[jw,kn,<-bn];omega
  rw[au]at Q;have Wm:=O au;subst Q;clear au
  go_upto_region 18 with fail
  obtain⟨bx,a1⟩:=J wr.heap.size;have aa:=jt wr (jd #[I N x.dev,I N x.u,A z x.body.length B] 104);have U:=ai wr (jd #[I N x.dev,I N x.u,A z x.body.length B] 104);have Uv:jc ((jU pv i cv).ownBlock≠jb bx):=O (cJ m.own (.inl (jR a1.symm)));rw[<-a1]at aa⊢;obtain⟨D,Un⟩:=J (wr.alloc (jd #[I N x.dev,I N x.u,A z x.body.length B] 104));rw[<-Un]at aa U⊢;have E:jc (Bls M3 W3 D ((c.wel.take i).map Wl.val) (A pv i cv) us):=O (m.later U);have HE:=O aa;clear aa U Un a1 m a3 cL d0 d1 d2;have bv:=O SZ;have Tc:jc (D.drew.heap[bx]?=jb (jd #[I N x.dev,I N x.u,A z x.body.length B] 104 (0,0))):=HE;have a2:jc (aP D.drew (A z x.body.length B) x.body):=O ((SZ.keep λg s=>(E.low.block g (jz s bs)).trans (RI.block g s)).bytes);replace E:=O (E.later (bz D));clear SZ HE;refine jO ?_;refine bY (λt=>t.heap[bx]?=jb (jd #[I N x.dev,I N x.u,A z x.body.length B] 104 (0,0))/\aP t (A z x.body.length B) x.body) (.t 0 (.t 1 (.t 2 (.t 4 (.t 5 (.t 6 (.t 8 (.t 9 (.t 10 (.t 11 (.o 3 (.o 7 (.o 12 (.o 13 (.o 14 (.o 15 (.o 16 (.t 17 .done)))))))))))))))))) ag ag ag G (λ_ _ _ _ h=>h) ⟨Tc,a2⟩ ?_;generalize D.drew=X at Tc a2 E⊢;have SJ:jc (jm X X X):=O (j9 _ _);iterate 2 refine bi ?_
  refine yz ?_;iterate 2 refine bi ?_
  refine yz ?_;iterate 2 refine bi ?_
  refine yz ?_
  (refine aE (v:=?_) T aj (λt C=>?_) ?_;rotate_left;(have kc:=mR C.2;rw[rV]at kc;go_simp;with_reducible rfl);refine L ?_)
  refine ar T (λy f=>?_);go_simp;refine(kh x.dev X).mono ?_;rintro e x1 ⟨rfl,d⟩;have UI:=Z Tc d;have bd:=O (a2.below d);have Sc:=ac SJ d;clear Tc a2 SJ;clear d;refine f _ _ ⟨UI,bd⟩ λ_=>?_
  clear f;refine L ?_;refine ar T (λy f=>?_);go_simp;refine(kh x.u x1).mono ?_;rintro e x2 ⟨rfl,d⟩;have Sg:=Z UI d;have bf:=O (bd.below d);have Sy:=ac Sc d;clear UI bd Sc;clear d;refine f _ _ ⟨Sg,bf⟩ λ_=>?_
  clear f;refine L ?_;refine ar T (λy f=>?_);go_simp;refine(vZ (ofB x.body) x2).mono ?_;rintro e x3 ⟨rfl,d⟩;have U8:=Z Sg d;have bg:=O (bf.below d);have S2:=ac Sy d;clear Sg bf Sy;clear d;refine f _ _ ⟨U8,bg⟩ λ_=>?_
  clear f;refine L ?_;refine ar T (λy f=>?_);go_simp;have d:=ai x3 (jd #[I N 1,I N x.dev,je ⟨#[]⟩,A ja 0 0,I N 1,I N x.u,je ⟨#[]⟩,A ja 0 0,I N 2,I N 0,je (ofB x.body),A ja 0 0] 128);have F:=jt x3 (jd #[I N 1,I N x.dev,je ⟨#[]⟩,A ja 0 0,I N 1,I N x.u,je ⟨#[]⟩,A ja 0 0,I N 2,I N 0,je (ofB x.body),A ja 0 0] 128);obtain⟨x4,r⟩:=J (x3.alloc (jd #[I N 1,I N x.dev,je ⟨#[]⟩,A ja 0 0,I N 1,I N x.u,je ⟨#[]⟩,A ja 0 0,I N 2,I N 0,je (ofB x.body),A ja 0 0] 128));have H:=kz x3 [I N 1,I N x.dev,je ⟨#[]⟩,A ja 0 0,I N 1,I N x.u,je ⟨#[]⟩,A ja 0 0,I N 2,I N 0,je (ofB x.body),A ja 0 0] 128 4 3 X.heap.size S2.size T G;replace H:(x3.alloc (jd #[I N 1,I N x.dev,je ⟨#[]⟩,A ja 0 0,I N 1,I N x.u,je ⟨#[]⟩,A ja 0 0,I N 2,I N 0,je (ofB x.body),A ja 0 0] 128)).ownsRow X.heap.size 128 4 (A (jb ⟨x3,0,ja⟩) 3 3) 3 [I N 1,I N x.dev,je ⟨#[]⟩,A ja 0 0,I N 1,I N x.u,je ⟨#[]⟩,A ja 0 0,I N 2,I N 0,je (ofB x.body),A ja 0 0]:=H;rw[<-r]at H;obtain⟨n,bo⟩:∃p:jB jN,p=jb ⟨x3,0,ja⟩:=⟨_,T⟩;rw[<-bo]at H⊢;clear bo;rw[<-r]at d F⊢;have Vm:=Z U8 d;have bh:=O (bg.below d);have UK:=ac S2 d;clear U8 bg S2;have U:=O F;clear F r d;refine f _ _ ⟨Vm,bh⟩ λ_=>?_
  clear f;have P:=O H;clear H U;refine L ?_;refine ar T (λy f=>?_);go_simp;refine(mQ n 3 3 x4).mono ?_;rintro e x5 ⟨rfl,d⟩;have Ui:=Z Vm d;have bk:=O (bh.below d);have VP:=ac UK d;have U6:=aO P d;clear Vm bh UK P;clear d;refine f _ _ ⟨Ui,bk⟩ λ_=>?_
  clear f;refine L ?_;refine ar T (λy f=>?_);go_simp;have d:=ai x5 (jd #[I N 3,I N 0,je ⟨#[]⟩,A n 3 3] 128);have F:=jt x5 (jd #[I N 3,I N 0,je ⟨#[]⟩,A n 3 3] 128);obtain⟨x6,r⟩:=J (x5.alloc (jd #[I N 3,I N 0,je ⟨#[]⟩,A n 3 3] 128));have TV:cO (x5.alloc (jd #[I N 3,I N 0,je ⟨#[]⟩,A n 3 3] 128)) (A (jb ⟨x5,0,ja⟩) 1 1) 4 1 [I N 3,I N 0,je ⟨#[]⟩,A n 3 3]:=eU x5 [I N 3,I N 0,je ⟨#[]⟩,A n 3 3] 128 (0,0) 4 1 1 T (jn _);rw[<-r]at TV;have Sz:=O TV;clear TV;rw[<-r]at d F⊢;have WK:=Z Ui d;have bl:=O (bk.below d);have Zl:=ac VP d;have bm:=aO U6 d;clear Ui bk VP U6;have P:=O F;clear F r d;refine f _ _ ⟨WK,bl⟩ λ_=>?_
  clear f;clear P;refine L ?_;refine ar T (λy f=>?_);rw[jv aj];have Sk:=O (E.later Zl);have ba:jc (aw (λg=>M3<=g/\g<x6.heap.size/\(jU pv i cv).ownBlock≠jb g) x6 (Wl.val x) (A n 3 3)):=O (by
   unfold Wl.val;rw[vL,aw];refine⟨qm 3 ci,ay.of_own bm (E.fresh Zl bm),?_⟩;exact aC.cons (eD _) (aC.cons (eD _) (aC.cons (mu _) (aC.nil))))
  refine iT _ _ T M3 (A pv i cv) _ _ T Sk.own _ 1 _ T Sz (by simp[jH]) (by rw[Wm];omega) Sk.sz λv' wf HG=>?_
  have RV:=HG.own;rw[Wm]at RV;obtain⟨pn,cn,rfl⟩:=a8 RV;have YN:=O (Sk.push (x:=Wl.val x) ba HG);refine f _ _ ⟨eP WK HG.grown Uv,((bv.keep λg s=>(YN.low.block g (jz s bs)).trans (RI.block g s)).bytes)⟩ λ_=>?_
  clear f RV HG Sk ba Sz bm Zl WK bl E;refine L ?_;refine bi ?_;refine jL ?_
  go_wp2_with fail
  refine⟨⟨i+1,_,_,T,by go_num,by omega,by rw[T7,lw];exact YN⟩,?_⟩;simp only[jK];omega
 have hd:=ap ((i:jh)<(S:jh));have Sm:=ap (i<S);have bb:c.wel.take i=c.wel:=j5 (by rw[<-bn];omega);replace m:jc (Bls M3 W3 wr (c.wel.map Wl.val) vr us):=O (by rw[<-bb];exact m);clear bb Sl;obtain⟨k,p,Q⟩:=a8 m.own;rw[jw,<-bn]at Q;subst Q;have U:=O m.fin;have x:jc (jm w w wr):=O (RI.trans (m.low.mono bs));have bf:jc (b<wr.heap.size):=O (jz bK m.sz);have aa:jc (M3<=wr.heap.size):=O m.sz;replace Vr:jc (aw (λg=>M<=g/\g<W) wr (vL (c.chg.map ak.val)) (A WF K WE)):=O (aw.keep (λg s=>m.low.block g (eF bI Tq)) _ _ Vr.out);replace bw:jc (aw (λg=>W<=g/\g<M3) wr (vL (c.box.map Bx.val)) (A Yb R WZ)):=O (aw.keep (λg s=>m.low.block g s.2) _ _ (by have h:=bw.out;rw[<-Tq]at h;exact h))
 go_upto_region 19 with fail
 clear m Zj cL hi a4 hd Sm ak6 RI bC;rename jg=>W4;rename jc (cZ W4 b c q)=>alc;obtain⟨c0,c1,UP,Ug,WY,VH,VI,ZB,ZE⟩:=fk c q u.plen u.clen;have B:=O u.path;obtain⟨ZD,pp,qp,ad,Zc,bc,Ts⟩:=u.path;rw[ad]at WY B;have al:jc (RZ[0]?=jb (I N c.folder)):=O (by rw[UO];simpa using c0);have VV:jc (RZ[1]?=jb (I N c.epoch)):=O (by rw[UO];simpa using c1);have au:jc (RZ[34]?=jb (I N c.author)):=O (by rw[UO];simpa using UP);have a1:jc (RZ[36]?=jb (A pp c.path.length qp)):=O (by rw[UO];simpa using WY);have a2:jc (RZ[71]?=jb (I N c.r)):=O (by rw[UO];simpa using ZB);have a4:jc (RZ[72]?=jb (I N c.s)):=O (by rw[UO];simpa using ZE);have a5:jc ((jl.info? 23).map (·.size)=jb (c.parent.map v8).length):=O (by rw[jw,u.plen];kernel_rfl);have ba:jc ((jl.info? 23).map (·.size)=jb (c.confirm.map v8).length):=O (by rw[jw,u.clen];kernel_rfl);have bb:jc (∀t:jg,t.heap[b]?=jb (jd RZ 63 (0,0))->t.rangeAt b 2 (c.parent.map v8)):=O (λt C=>sa (o:=2) C (λj v z=>by
  have m:j<32:=by have:=(qa.1 z).1;rw[jw,u.plen]at this;exact this
  have h:=vJ c q u.plen m;rw[UO,qz,h,<-z,mb,jY (by rw[u.plen];exact m)];simp[v8,kw,u.plen,m]))
 have bd:jc (∀t:jg,t.heap[b]?=jb (jd RZ 63 (0,0))->t.rangeAt b 39 (c.confirm.map v8)):=O (λt C=>sa (o:=39) C (λj v z=>by
  have m:j<32:=by have:=(qa.1 z).1;rw[jw,u.clen]at this;exact this
  have h:=CS c q u.plen u.clen m;rw[UO,qz,h,<-z,mb,jY (by rw[u.clen];exact m)];simp[v8,kw,u.clen,m]))
 have Tc:jc (W4.drew.heap[b]?=jb (jd RZ 63 (0,0))):=O (by rw[UO];exact alc.blk);have SJ:jc (jm W4 W4 W4.drew):=O (bz W4);clear c0 c1 UP Ug WY VH VI ZB ZE ZD ad Zc bc Ts alc;refine jO ?_;refine bY (λt=>t.heap[b]?=jb (jd RZ 63 (0,0))) (.t 0 (.t 1 (.t 3 (.t 4 (.t 6 (.t 7 (.t 9 (.t 10 (.t 12 (.t 14 (.t 15 (.t 17 (.t 19 (.t 21 (.t 22 (.t 24 (.t 25 (.t 26 (.t 28 (.t 29 (.t 30 (.o 2 (.o 5 (.o 8 (.o 11 (.o 13 (.o 16 (.o 18 (.o 20 (.o 23 (.o 27 (.o 31 (.o 32 (.t 33 .done)))))))))))))))))))))))))))))))))) ag ag ag G (λ_ _ _ _ h=>h) Tc ?_;generalize W4.drew=X at Tc SJ⊢;refine bi ?_
 (refine aE (v:=?_) T aj (λt C=>?_) ?_;rotate_left;(have j:=ae C al;go_simp;with_reducible rfl);refine L ?_)
 refine bi ?_
 (refine aE (v:=?_) T aj (λt C=>?_) ?_;rotate_left;(have j:=ae C VV;go_simp;with_reducible rfl);refine L ?_)
 refine bi ?_
 (refine aE (v:=jk (c.parent.map v8).toArray) T aj (λt C=>oD n0 T a5 T T (bb t C)) (L ?_))
 refine bi ?_
 (refine aE (v:=?_) T aj (λt C=>?_) ?_;rotate_left;(have j:=ae C au;go_simp;with_reducible rfl);refine L ?_)
 iterate 2 refine bi ?_
 (refine aE (v:=?_) T aj (λt C=>?_) ?_;rotate_left;(have j:=ae C a1;go_simp;with_reducible rfl);refine L ?_)
 iterate 3 refine bi ?_
 (refine aE (v:=jk (c.confirm.map v8).toArray) T aj (λt C=>oD n0 T ba T T (bd t C)) (L ?_))
 iterate 2 refine bi ?_
 (refine aE (v:=?_) T aj (λt C=>?_) ?_;rotate_left;(have j:=ae C a2;go_simp;with_reducible rfl);refine L ?_)
 iterate 2 refine bi ?_
 (refine aE (v:=?_) T aj (λt C=>?_) ?_;rotate_left;(have j:=ae C a4;go_simp;with_reducible rfl);refine L ?_)
 refine ar T (λy f=>?_);go_simp;refine(kh c.folder X).mono ?_;rintro e x1 ⟨rfl,d⟩;have UI:=Z Tc d;have Sc:=ac SJ d;clear Tc SJ;clear d;refine f _ _ UI.out λ_=>?_
 clear f;refine L ?_;refine ar T (λy f=>?_);go_simp;refine(kh c.epoch x1).mono ?_;rintro e x2 ⟨rfl,d⟩;have Sg:=Z UI d;have Sy:=ac Sc d;clear UI Sc;clear d;refine f _ _ Sg.out λ_=>?_
 clear f;refine L ?_;refine ar T (λy f=>?_);go_simp;refine(F1 c.parent u.plen x2).mono ?_;rintro e x3 ⟨rfl,d⟩;have U8:=Z Sg d;have S2:=ac Sy d;clear Sg Sy;clear d;refine f _ _ U8.out λ_=>?_
 clear f;refine L ?_;refine ar T (λy f=>?_);go_simp;refine(kh c.author x3).mono ?_;rintro e x4 ⟨rfl,d⟩;have Vm:=Z U8 d;have UK:=ac S2 d;clear U8 S2;clear d;refine f _ _ Vm.out λ_=>?_
 clear f;refine L ?_;refine ar T (λy f=>?_);go_simp;refine(mQ WF K WE x4).mono ?_;rintro e x5 ⟨rfl,d⟩;have Ui:=Z Vm d;have VP:=ac UK d;clear Vm UK;clear d;refine f _ _ Ui.out λ_=>?_
 clear f;refine L ?_;refine ar T (λy f=>?_);go_simp;refine(Ab c.path _ x5 (ay.ints (B.keep λg s=>((x.trans (VP.mono x.size)).block g s))) Y).mono ?_;rintro e x6 ⟨up,rfl,j,d⟩;obtain⟨n,V,rfl⟩:=a8 j;have m:jc (x6.ownsRow W4 128 4 (A n c.path.length V) c.path.length (ef c.path)):=O (lV j VP.size);clear j;have WK:=Z Ui d;have Zl:=ac VP d;clear Ui VP;clear d;refine f _ _ WK.out λ_=>?_
 clear f;refine L ?_;refine ar T (λy f=>?_);go_simp;refine(mQ Yb R WZ x6).mono ?_;rintro e x7 ⟨rfl,d⟩;have Yf:=Z WK d;have YE:=ac Zl d;have o:=aO m d;clear WK Zl m;clear d;refine f _ _ Yf.out λ_=>?_
 clear f;refine L ?_;refine ar T (λy f=>?_);go_simp;refine(mQ k S p x7).mono ?_;rintro e x8 ⟨rfl,d⟩;have j:=Z Yf d;have t:=ac YE d;have z:=aO o d;clear Yf YE o;clear d;refine f _ _ j.out λ_=>?_
 clear f;refine L ?_;refine ar T (λy f=>?_);go_simp;refine(F1 c.confirm u.clen x8).mono ?_;rintro e x9 ⟨rfl,d⟩;have m:=Z j d;have C:=ac t d;have D:=aO z d;clear j t z;clear d;refine f _ _ m.out λ_=>?_
 clear f;refine L ?_;refine ar T (λy f=>?_);go_simp;refine(kh c.r x9).mono ?_;rintro e ad ⟨rfl,d⟩;have o:=Z m d;have E:=ac C d;have P:=aO D d;clear m C D;clear d;refine f _ _ o.out λ_=>?_
 clear f;refine L ?_;refine ar T (λy f=>?_);go_simp;refine(kh c.s ad).mono ?_;rintro e j ⟨rfl,d⟩;have t:=Z o d;have z:=ac E d;have C:=aO P d;clear o E P;clear d;refine f _ _ t.out λ_=>?_
 clear f;refine L ?_;refine ar T (λy f=>?_);go_simp;have d:=ai j (jd #[I N 1,I N c.folder,je ⟨#[]⟩,A ja 0 0,I N 1,I N c.epoch,je ⟨#[]⟩,A ja 0 0,I N 2,I N 0,je (ofB c.parent),A ja 0 0,I N 1,I N c.author,je ⟨#[]⟩,A ja 0 0,I N 3,I N 0,je ⟨#[]⟩,A WF K WE,I N 3,I N 0,je ⟨#[]⟩,A n c.path.length V,I N 3,I N 0,je ⟨#[]⟩,A Yb R WZ,I N 3,I N 0,je ⟨#[]⟩,A k S p,I N 2,I N 0,je (ofB c.confirm),A ja 0 0,I N 1,I N c.r,je ⟨#[]⟩,A ja 0 0,I N 1,I N c.s,je ⟨#[]⟩,A ja 0 0] 128);have F:=jt j (jd #[I N 1,I N c.folder,je ⟨#[]⟩,A ja 0 0,I N 1,I N c.epoch,je ⟨#[]⟩,A ja 0 0,I N 2,I N 0,je (ofB c.parent),A ja 0 0,I N 1,I N c.author,je ⟨#[]⟩,A ja 0 0,I N 3,I N 0,je ⟨#[]⟩,A WF K WE,I N 3,I N 0,je ⟨#[]⟩,A n c.path.length V,I N 3,I N 0,je ⟨#[]⟩,A Yb R WZ,I N 3,I N 0,je ⟨#[]⟩,A k S p,I N 2,I N 0,je (ofB c.confirm),A ja 0 0,I N 1,I N c.r,je ⟨#[]⟩,A ja 0 0,I N 1,I N c.s,je ⟨#[]⟩,A ja 0 0] 128);obtain⟨m,r⟩:=J (j.alloc (jd #[I N 1,I N c.folder,je ⟨#[]⟩,A ja 0 0,I N 1,I N c.epoch,je ⟨#[]⟩,A ja 0 0,I N 2,I N 0,je (ofB c.parent),A ja 0 0,I N 1,I N c.author,je ⟨#[]⟩,A ja 0 0,I N 3,I N 0,je ⟨#[]⟩,A WF K WE,I N 3,I N 0,je ⟨#[]⟩,A n c.path.length V,I N 3,I N 0,je ⟨#[]⟩,A Yb R WZ,I N 3,I N 0,je ⟨#[]⟩,A k S p,I N 2,I N 0,je (ofB c.confirm),A ja 0 0,I N 1,I N c.r,je ⟨#[]⟩,A ja 0 0,I N 1,I N c.s,je ⟨#[]⟩,A ja 0 0] 128));have H:=kz j [I N 1,I N c.folder,je ⟨#[]⟩,A ja 0 0,I N 1,I N c.epoch,je ⟨#[]⟩,A ja 0 0,I N 2,I N 0,je (ofB c.parent),A ja 0 0,I N 1,I N c.author,je ⟨#[]⟩,A ja 0 0,I N 3,I N 0,je ⟨#[]⟩,A WF K WE,I N 3,I N 0,je ⟨#[]⟩,A n c.path.length V,I N 3,I N 0,je ⟨#[]⟩,A Yb R WZ,I N 3,I N 0,je ⟨#[]⟩,A k S p,I N 2,I N 0,je (ofB c.confirm),A ja 0 0,I N 1,I N c.r,je ⟨#[]⟩,A ja 0 0,I N 1,I N c.s,je ⟨#[]⟩,A ja 0 0] 128 4 11 w.heap.size (jA x.size z.size) T G;replace H:(j.alloc (jd #[I N 1,I N c.folder,je ⟨#[]⟩,A ja 0 0,I N 1,I N c.epoch,je ⟨#[]⟩,A ja 0 0,I N 2,I N 0,je (ofB c.parent),A ja 0 0,I N 1,I N c.author,je ⟨#[]⟩,A ja 0 0,I N 3,I N 0,je ⟨#[]⟩,A WF K WE,I N 3,I N 0,je ⟨#[]⟩,A n c.path.length V,I N 3,I N 0,je ⟨#[]⟩,A Yb R WZ,I N 3,I N 0,je ⟨#[]⟩,A k S p,I N 2,I N 0,je (ofB c.confirm),A ja 0 0,I N 1,I N c.r,je ⟨#[]⟩,A ja 0 0,I N 1,I N c.s,je ⟨#[]⟩,A ja 0 0] 128)).ownsRow w.heap.size 128 4 (A (jb ⟨j,0,ja⟩) 11 11) 11 [I N 1,I N c.folder,je ⟨#[]⟩,A ja 0 0,I N 1,I N c.epoch,je ⟨#[]⟩,A ja 0 0,I N 2,I N 0,je (ofB c.parent),A ja 0 0,I N 1,I N c.author,je ⟨#[]⟩,A ja 0 0,I N 3,I N 0,je ⟨#[]⟩,A WF K WE,I N 3,I N 0,je ⟨#[]⟩,A n c.path.length V,I N 3,I N 0,je ⟨#[]⟩,A Yb R WZ,I N 3,I N 0,je ⟨#[]⟩,A k S p,I N 2,I N 0,je (ofB c.confirm),A ja 0 0,I N 1,I N c.r,je ⟨#[]⟩,A ja 0 0,I N 1,I N c.s,je ⟨#[]⟩,A ja 0 0]:=H;rw[<-r]at H;have D:=O H;clear H;rw[<-r]at d F⊢;have E:=Z t d;have o:=ac z d;have y:=aO C d;clear t z C;have C:=O F;clear F r d;refine f _ _ E.out λ_=>?_
 clear f;refine L ?_;refine bi ?_;refine jL ?_
 go_wp2_with fail
 go_ret;have d:∀g,(M<=g/\g<W4.heap.size)->(w.heap.size<=g/\g<m.heap.size):=λg s=>⟨jA bu s.1,jz s.2 o.size⟩
 have f:∀g,(M<=g/\g<W4.heap.size)->m.heap[g]?=W4.heap[g]?:=λg s=>o.block g s.2
 have F:M<=W:=by have:=bM.out;have:=Ta.out;omega
 have H:W<=M3:=by have:=bI.out;have:=Tq.out;omega
 have P:M3<=W4.heap.size:=aa.out;have r:aw (λg=>w.heap.size<=g/\g<m.heap.size) m (vL (c.path.map vI)) (A n c.path.length V):=mU y (λg s=>by
  have h:=y.lt g s;exact⟨jA x.size h.1,h.2⟩)
 have h:aw (λg=>M<=g/\g<W4.heap.size) W4 (vL (c.chg.map ak.val)) (A WF K WE):=aw.mono (λg s=>⟨s.1,by omega⟩) _ _ Vr.out;have t:aw (λg=>M<=g/\g<W4.heap.size) W4 (vL (c.box.map Bx.val)) (A Yb R WZ):=aw.mono (λg s=>⟨by omega,by omega⟩) _ _ bw.out;have z:aw (λg=>M<=g/\g<W4.heap.size) W4 (vL (c.wel.map Wl.val)) (A k S p):=aw.mono (λg s=>⟨by omega,s.2⟩) _ _ U.out;refine⟨_,T,⟨[ci,ci,ci,ci,A WF K WE,A n c.path.length V,A Yb R WZ,A k S p,ci,ci,ci],D,?_⟩,x.trans (o.mono x.size)⟩;exact aC.cons (eD _) (aC.cons (eD _) (aC.cons (mu _) (aC.cons (eD _) (aC.cons (aw.mono d _ _ (aw.keep f _ _ h)) (aC.cons r (aC.cons (aw.mono d _ _ (aw.keep f _ _ t)) (aC.cons (aw.mono d _ _ (aw.keep f _ _ z)) (aC.cons (mu _) (aC.cons (eD _) (aC.cons (eD _) aC.nil))))))))))
theorem baI{a b:ByteArray}(h:a.toList=b.toList):a=b:=by
 rw[ByteArray.toList_eq,ByteArray.toList_eq]at h;exact ByteArray.ext (Array.toList_inj.1 h)
noncomputable def iS(x y:Val):Bool:=by classical exact decide (x=y)
theorem zL{y:Val}(h:x=y):iS x y=jp:=by unfold iS;simp[h]
theorem oP{y:Val}(h:x≠y):iS x y=jo:=by unfold iS;simp[h]
def yF(x:Val):Prop:=∀(y:Val) (a v:jj) (w:jg),aw (·<w.heap.size) w x a->aw (·<w.heap.size) w y v->
 jr jl 79 #[jk #[I N x.k,I N x.n,je x.s,a],jk #[I N y.k,I N y.n,je y.s,v]] w λe w'=>e=jq (.bool (iS x y))/\jm w w w'
theorem se(j n:jh)(xs:ByteArray)(l:ji Val)(i:∀z∈l,yF z)(hn:l.length<=3000000):yF (.mk j n xs l):=by
 rintro⟨s,u,C,m⟩ F v w z D;show jr jl 79 #[jk #[I N j,I N n,je xs,F],jk #[I N s,I N u,je C,v]] w _;obtain⟨us,a2,a⟩:=z.slice;obtain⟨vs,a3,b⟩:=D.slice;replace a2:ay (·<w.heap.size) w F 4 l.length (bU l us):=a2;replace a:aC (·<w.heap.size) w l us:=a;replace a3:ay (·<w.heap.size) w v 4 m.length (bU m vs):=a3;replace b:aC (·<w.heap.size) w m vs:=b;obtain⟨-,H,K,rfl,bk,-,f⟩:=a2;obtain⟨-,pv,cv,rfl,bl,-,g⟩:=a3;obtain⟨d,c⟩:=J l.length;obtain⟨M,e⟩:=J m.length;obtain⟨P,h⟩:=J (iS (.mk j n xs l) (.mk s u C m));rw[<-h,<-c,<-e];rw[<-c]at hn bk f;rw[<-e]at bl g;have bm:=O a;have bn:=O b;have bo:=O f;have bq:=O g;have HN:=O c;have HM:=O e;have Ti:=O i;have Q:=O h;clear a b f g c e i z D h;have g:=ai w (jd #[I N j,I N n,je xs,A H d K] 128);have a:=jt w (jd #[I N j,I N n,je xs,A H d K] 128);have h:=ai (w.alloc (jd #[I N j,I N n,je xs,A H d K] 128)) (jd #[I N s,I N u,je C,A pv M cv] 128);have b:=jt (w.alloc (jd #[I N j,I N n,je xs,A H d K] 128)) (jd #[I N s,I N u,je C,A pv M cv] 128);rw[jF]at b;replace a:=az a h;obtain⟨E,k⟩:=J w.heap.size;have o:=g.trans (h.mono g.size);obtain⟨c,e⟩:=J ((w.alloc (jd #[I N j,I N n,je xs,A H d K] 128)).alloc (jd #[I N s,I N u,je C,A pv M cv] 128));rw[<-e,<-k]at a b;rw[<-e]at o;have HX:=O a;have HY:=O b;have f:=O o;have V:=O k;have p:=O e;have a0:=ae (i:=0) a T;have br:=ae (i:=1) a T;have bs:=ae (i:=2) a T;have a5:=ae (i:=3) a T;have b0:=ae (i:=0) b T;have b1:=ae (i:=1) b T;have b2:=ae (i:=2) b T;have b3:=ae (i:=3) b T;clear g h a b o k e
 by_cases hk:j=s
 ·subst hk
  by_cases hm:n=u
  ·subst hm
   by_cases hs:xs=C
   ·subst hs
    by_cases ba:d=M
    ·subst ba
     have S0:jc (c.cell? ⟨E,3,ja⟩=jb (A H d K)):=O a5;have bu:jc (c.cell? ⟨E+1,3,ja⟩=jb (A pv d cv)):=O b3;have a4:jc (E+1<c.heap.size/\E<c.heap.size):=O ⟨(js.1 HY).1,(js.1 HX).1⟩
     go_enter func79,oo
     go_upto_region 1 with fail
     rw[<-p,<-V];clear p
     go_wp2_with fail
     clear a0 br bs a5 b0 b1 b2 b3 HX HY
     go_loopw [5] (λa wr=>∃i:jf,a=I N i/\i<=d/\jc (l.take i=m.take i)/\jc (jm c c wr)) (λa _=>d-(jK a).toNat)
     case atStart=>exact⟨0,T,jX _,O T,O (j9 _ _)⟩
     obtain⟨i,rfl,hi,HT,au⟩:=hrel;have cA:=(bX (w':=wr) (au.block E a4.2)).trans S0
     by_cases a1:i<d
     ·have hd:=ao ((i:jh)<(d:jh))
      have Sm:=ao (i<d);obtain⟨g,o,rfl,X,k⟩:=bo Y;obtain⟨r,o2,rfl,aa,U⟩:=bq Y;obtain⟨x,z⟩:∃x,l[i]?=jb x:=⟨l[i]'(by rw[<-HN];exact a1),jY (by rw[<-HN];exact a1)⟩;obtain⟨y,D⟩:∃x,m[i]?=jb x:=⟨m[i]'(by rw[<-HM];exact a1),jY (by rw[<-HM];exact a1)⟩;obtain⟨R,VT,bb⟩:=bm.at z;obtain⟨S,bc,bd⟩:=bn.at D;have ad:=λq hq=>pC l us i q x R z VT hq
      have al:=λq hq=>pC m vs i q y S D bc hq
      have e:∀a F,a.block<w.heap.size->w.cell? a=jb F->c.cell? a=jb F:=λa F ha hu=>(bX (f.block _ ha)).trans hu
      have D0:jc (c.cell? ⟨g,o+i*4,ja⟩=jb (I N x.k)):=O (e _ _ X (k (i*4+0) _ (ad 0 G)));have D1:jc (c.cell? ⟨g,o+i*4+1,ja⟩=jb (I N x.n)):=O (e _ _ X (k (i*4+1) _ (ad 1 G)));have D2:jc (c.cell? ⟨g,o+i*4+2,ja⟩=jb (je x.s)):=O (e _ _ X (k (i*4+2) _ (ad 2 G)));have D3:jc (c.cell? ⟨g,o+i*4+3,ja⟩=jb R):=O (e _ _ X (k (i*4+3) _ (ad 3 G)));have E0:jc (c.cell? ⟨r,o2+i*4,ja⟩=jb (I N y.k)):=O (e _ _ aa (U (i*4+0) _ (al 0 G)));have E1:jc (c.cell? ⟨r,o2+i*4+1,ja⟩=jb (I N y.n)):=O (e _ _ aa (U (i*4+1) _ (al 1 G)));have E2:jc (c.cell? ⟨r,o2+i*4+2,ja⟩=jb (je y.s)):=O (e _ _ aa (U (i*4+2) _ (al 2 G)));have E3:jc (c.cell? ⟨r,o2+i*4+3,ja⟩=jb S):=O (e _ _ aa (U (i*4+3) _ (al 3 G)));have HF:=O (Ti x (o4 z));have B:jc (g<c.heap.size/\r<c.heap.size):=O ⟨jz X f.size,jz aa f.size⟩;have bf:jc (∀W:jg,jm c c W->aw (·<W.heap.size) W x R/\aw (·<W.heap.size) W y S):=O (λW t=>
       ⟨aw.mono (D':=(·<W.heap.size)) (λb (h:b<w.heap.size)=>jz h (jA f.size t.size)) x R (aw.keep (λb (h:b<w.heap.size)=>(t.block b (jz h f.size)).trans (f.block b h)) x R bb),
        aw.mono (D':=(·<W.heap.size)) (λb (h:b<w.heap.size)=>jz h (jA f.size t.size)) y S (aw.keep (λb (h:b<w.heap.size)=>(t.block b (jz h f.size)).trans (f.block b h)) y S bd)⟩)
      have bg:=O z;have bh:=O D;have t:jc (jm c c wr.drew):=O (au.trans ((bz wr).mono au.size));clear z D VT bc bb bd ad al e k U
      go_upto_region 6 with fail
      refine jO ?_;refine bY (λe=>jm c c e) (.t 0 (.t 1 (.t 2 (.t 3 (.t 4 (.t 5 (.t 6 (.t 7 (.t 8 (.t 9 (.o 10 (.t 11 .done)))))))))))) ag ag ag G (λ_ _ _ _ h=>h) t ?_;generalize wr.drew=x0 at t⊢;refine bi ?_
      (refine aE (v:=?_) T aj (λe b=>?_) ?_;rotate_left;(have k:=(bX (b.block E a4.2)).trans S0;go_simp;with_reducible rfl);refine L ?_)
      iterate 2 refine bi ?_
      (refine aE (v:=?_) T aj (λe b=>?_) ?_;rotate_left;(have U:=(bX (b.block g B.1)).trans D0;have W:=(bX (b.block g B.1)).trans D1;have k2:=(bX (b.block g B.1)).trans D2;have k3:=(bX (b.block g B.1)).trans D3;go_simp;with_reducible rfl);refine L ?_)
      refine bi ?_
      (refine aE (v:=?_) T aj (λe b=>?_) ?_;rotate_left;(have k:=(bX (b.block (E+1) a4.1)).trans bu;go_simp;with_reducible rfl);refine L ?_)
      iterate 2 refine bi ?_
      (refine aE (v:=?_) T aj (λe b=>?_) ?_;rotate_left;(have U:=(bX (b.block r B.2)).trans E0;have W:=(bX (b.block r B.2)).trans E1;have k2:=(bX (b.block r B.2)).trans E2;have k3:=(bX (b.block r B.2)).trans E3;go_simp;with_reducible rfl);refine L ?_)
      refine ar T (λe b=>?_);go_simp;refine(HF y R S x0 (bf x0 t).1 (bf x0 t).2).mono ?_;rintro e x1 ⟨rfl,k⟩;have Su:=ac t k;refine b _ _ Su.out λ_=>?_
      clear b k t;refine L ?_;refine bi ?_;refine jL ?_;obtain⟨t,b⟩:=J (iS x y);rw[<-b]
      cases t with
      |true=>
       have k:x=y:=by
        by_cases h:x=y
        ·exact h
        rw[oP h]at b;cases b
       have U:jc (l.take (i+1)=m.take (i+1)):=O (by
        rw[qA,qA,HT,bg,bh,k])
       clear b k
       go_wp2_with fail
       refine⟨⟨i+1,by go_num,by omega,U,Su⟩,?_⟩;simp only[jK];omega
      |false=>
       have k:P=jo:=by
        rw[Q];refine oP (λh=>?_);injection h with W h2 h3 U
        have e:=bg.out;rw[U,bh]at e;injection e with e
        rw[zL e.symm]at b
        cases b
       clear b
       go_wp2_with fail
       go_ret;exact⟨T,f.trans (Su.mono f.size)⟩
     have hd:=ap ((i:jh)<(d:jh));have Sm:=ap (i<d);have k:P=jp:=by
      rw[Q];have h:=HT.out;rw[j5 (by rw[<-HN];omega),j5 (by rw[<-HM];omega)]at h;exact zL (by rw[h])
     go_wp2_with fail
     go_ret;exact⟨(by first|rfl|(rw[k];rfl)),f.trans (au.mono f.size)⟩
    have k:P=jo:=by
     rw[Q];exact oP (λh=>by injection h with W h2 h3 U;exact ba (by rw[HN,HM,U]))
    have a:((d:jh)==(M:jh))=jo:=by simp;omega
    have b:((d:jh)!=(M:jh))=jp:=by simp;omega
    go_enter func79,oo
    go_upto_region 1 with fail
    rw[<-p,<-V];clear p
    go_wp2_with fail
    go_ret;exact⟨T,f⟩
   have k:P=jo:=by
    rw[Q];exact oP (λh=>by injection h with W h2 h3 U;exact hs h3)
   have a:¬xs.toList=C.toList:=λh=>hs (baI h)
   go_enter func79,oo
   go_upto_region 1 with fail
   rw[<-p,<-V];clear p
   go_wp2_with fail
   go_ret;exact⟨T,f⟩
  have k:P=jo:=by
   rw[Q];exact oP (λh=>by injection h with W h2 h3 U;exact hm h2)
  have a:(n==u)=jo:=ah hm;have b:(n !=u)=jp:=ah hm
  go_enter func79,oo
  go_upto_region 1 with fail
  rw[<-p,<-V];clear p
  go_wp2_with fail
  go_ret;exact⟨T,f⟩
 have k:P=jo:=by
  rw[Q];exact oP (λh=>by injection h with W h2 h3 U;exact hk W)
 have a:(j==s)=jo:=ah hk;have b:(j !=s)=jp:=ah hk
 go_enter func79,oo
 go_upto_region 1 with fail
 rw[<-p,<-V];clear p
 go_wp2_with fail
 go_ret;exact⟨T,f⟩
theorem Rp:∀(f:jf) (x:Val),aU f x->(enc x).length<=3000000->yF x:=by
 intro f
 induction f with
 |zero=>
  rintro⟨k,n,s,l⟩ h b;rw[aU]at h
  rcases h with⟨-,-,-,-,rfl⟩|⟨-,-,-,rfl⟩|⟨-,-,-,-,h⟩
  ·exact se _ _ _ _ (λz a=>by cases a) G
  ·exact se _ _ _ _ (λz a=>by cases a) G
  exact h.elim
 |succ f c=>
  rintro⟨k,n,s,l⟩ h b;rw[aU]at h
  rcases h with⟨-,-,-,-,rfl⟩|⟨-,-,-,rfl⟩|⟨rfl,rfl,rfl,-,h⟩
  ·exact se _ _ _ _ (λz a=>by cases a) G
  ·exact se _ _ _ _ (λz a=>by cases a) G
  have e:(enc (.mk 3 0 emS l)).length=(bV l.length).length+(encs l).length+1:=by
   rw[enc,jG G,jG G,qB,mT]
  have j:=po l;refine se _ _ _ _ (λx a=>c x (h x a) ?_) Y;have:(enc x).length<=(encs l).length:=by
   obtain⟨i,d⟩:=List.getElem?_of_mem a;have g:=sj l (i+1);rw[r8 d,mT]at g;omega
  omega
theorem iV.valV(h:iV w a u j):aw (λg=>w.heap.size<=g/\g<a.heap.size) a (vL (aJ u)) j:=by
 obtain⟨b,w',hk⟩:=h;rw[vL,aw];exact⟨b,ay.of_own w' (λg d=>w'.lt g d),hk⟩
theorem iV.sliceV(h:iV w a u j):∃p k,j=A p 11 k:=by
 obtain⟨b,w',-⟩:=h;exact a8 w'
theorem Mi(c d:aD)(q r:CQ)(w:jg)(f:aF (·<w.heap.size) w c q)(g:aF (·<w.heap.size) w d r)(a:eu (aJ c))(V:d.chg.length<=1000000)(l2:d.path.length<=1000000)(l3:d.box.length<=1000000)(l4:d.wel.length<=1000000):
 jr jl 24 #[jk (av c q).toArray,jk (av d r).toArray] w λe w'=>e=jq (.bool (iS (vL (aJ c)) (vL (aJ d))))/\jm w w w':=by
 have z:=Rp 16 (vL (aJ c)) a.wf (jA a.len G);have x:jc (∀(y:Val) (b v:jj) (w:jg),aw (·<w.heap.size) w (vL (aJ c)) b->aw (·<w.heap.size) w y v->
  jr jl 79 #[jk #[I N 3,I N 0,je ⟨#[]⟩,b],jk #[I N y.k,I N y.n,je y.s,v]] w λe w'=>e=jq (.bool (iS (vL (aJ c)) y))/\jm w w w'):=O z
 replace x:jc (∀(b v:jj) (w:jg),aw (·<w.heap.size) w (vL (aJ c)) b->aw (·<w.heap.size) w (vL (aJ d)) v->
  jr jl 79 #[jk #[I N 3,I N 0,je ⟨#[]⟩,b],jk #[I N 3,I N 0,je ⟨#[]⟩,v]] w λe w'=>e=jq (.bool (iS (vL (aJ c)) (vL (aJ d))))/\jm w w w'):=O (λb v w h j=>x (vL (aJ d)) b v w h j)
 have M:jc (∀W:jg,jm w w W->jr jl 78 #[jk (av c q).toArray] W λe w'=>∃v,e=jq v/\iV W w' c v/\jm W W w'):=O (λW b=>CZ c q W (f.below b) a.lens.1 a.lens.2.1 a.lens.2.2.1 a.lens.2.2.2);have P:jc (∀W:jg,jm w w W->jr jl 78 #[jk (av d r).toArray] W λe w'=>∃v,e=jq v/\iV W w' d v/\jm W W w'):=O (λW b=>CZ d r W (g.below b) V l2 l3 l4);have k:(jl.info? 63).map (·.size)=jb (av c q).toArray.size:=by rw[jD,fa c q f.plen f.clen];exact fN
 have o:(jl.info? 63).map (·.size)=jb (av d r).toArray.size:=by rw[jD,fa d r g.plen g.clen];exact fN
 obtain⟨l,C⟩:=J ((av c q).toArray);obtain⟨m,E⟩:=J ((av d r).toArray);obtain⟨VW,F⟩:=J (iS (vL (aJ c)) (vL (aJ d)));rw[<-C]at M k⊢;rw[<-E]at P o⊢;rw[<-F]at x⊢;have W:=O k;have aa:=O o;have s:=ai w (jd l 63);have b:=jt w (jd l 63);have t:=ai (w.alloc (jd l 63)) (jd m 63);have h:=jt (w.alloc (jd l 63)) (jd m 63);rw[jF]at h;replace b:=az b t;obtain⟨B,u⟩:=J w.heap.size;have y:=s.trans (t.mono s.size);obtain⟨n,j⟩:=J ((w.alloc (jd l 63)).alloc (jd m 63));rw[<-j,<-u]at b h;rw[<-j]at y;have H:=O b;have K:=O h;have p:=O y;have HA:=O u;have Q:=O j;clear s t b h y u j z f g a k o C E F
 go_enter func24,ntmps24
 go_upto_region 1 with fail
 rw[<-Q,<-HA];clear Q
 go_wp2_with (refine jQ T 63 _ T B T 63 l (0,0) _ H.out jP T W ?_)
 refine(M n p).mono ?_;rintro e C ⟨vc,rfl,b,a⟩;have f:=O b.valV;obtain⟨j,k,rfl⟩:=b.sliceV;have h:=Z K a;have t:=O (Below.trans (j9 _ _) a);clear b a H K
 go_wp2_with fail
 refine(mQ j 11 k C).mono ?_;rintro e o ⟨rfl,a⟩;have Q:=O (aw.keep (λg b=>a.block g b.2) _ _ f.out);have R:=Z h a;have s:=ac t a;have E:=O a.size;clear a f h t;have h:=ai o (jd #[I N 3,I N 0,je ⟨#[]⟩,A j 11 k] 128);have y:=jt o (jd #[I N 3,I N 0,je ⟨#[]⟩,A j 11 k] 128);obtain⟨X,F⟩:=J o.heap.size;rw[<-F]at y;obtain⟨f,H⟩:=J (o.alloc (jd #[I N 3,I N 0,je ⟨#[]⟩,A j 11 k] 128));rw[<-H]at y h;have S:=O F;have U:=O H;have z:jm o o f.drew:=h.trans ((bz f).mono h.size);have t:jc (f.drew.heap[X]?=jb (jd #[I N 3,I N 0,je ⟨#[]⟩,A j 11 k] 128 (0,0))/\f.drew.heap[B+1]?=jb (jd m 63 (0,0))):=O ⟨y,az R z⟩;have u:jc (jm n n f.drew):=O ((s.trans (h.mono s.size)).trans ((bz f).mono (s.trans (h.mono s.size)).size));have K:jc (aw (λg=>n.heap.size<=g/\g<f.drew.heap.size) f.drew (vL (aJ c)) (A j 11 k)):=O (aw.mono (D:=λg=>n.heap.size<=g/\g<C.heap.size) (λg b=>⟨b.1,jz b.2 (jA E z.size)⟩) _ _ (aw.keep (λg (b:n.heap.size<=g/\g<C.heap.size)=>z.block g (jz b.2 E)) _ _ Q.out));clear z h y F H Q R s E
 go_upto_region 2 with fail
 rw[<-U,<-S];clear U S;refine jO ?_;refine bY (λs=>s.heap[X]?=jb (jd #[I N 3,I N 0,je ⟨#[]⟩,A j 11 k] 128 (0,0))/\s.heap[B+1]?=jb (jd m 63 (0,0))) (.t 0 (.t 1 (.o 2 (.o 3 (.o 4 (.t 5 .done)))))) ag ag ag G (λ_ _ _ _ h=>h) t ?_;generalize f.drew=U at t K u⊢
 (refine aE (v:=?_) T aj (λs h=>?_) ?_;rotate_left;(have y:=ae (i:=0) h.1 T;have z:=ae (i:=1) h.1 T;have E:=ae (i:=2) h.1 T;have F:=ae (i:=3) h.1 T;go_simp;with_reducible rfl);refine L ?_)
 (refine aE (v:=jk m) T aj (λs h=>cI jP T aa T T h.2) (L ?_))
 refine ar T (λz h=>?_);go_simp;refine(P U (p.trans (u.mono p.size))).mono ?_;rintro e x1 ⟨vd,rfl,s,a⟩;have E:=u.trans (a.mono u.size);have F:=O s.valV;have H:=O (aw.keep (λg b=>a.block g b.2) _ _ K.out);obtain⟨pd,cd,rfl⟩:=s.sliceV;have Q:=O E;have R:=O a.size;refine h _ _ ⟨az t.1 a,az t.2 a⟩ λS=>?_
 have y:=O S;clear h a E s t K u S;refine L ?_;refine ar T (λz h=>?_);go_simp;refine(mQ pd 11 cd x1).mono ?_;rintro e x2 ⟨rfl,a⟩;have t:=ac Q a;have u:=O (aw.keep (λg b=>a.block g (jz b.2 R)) _ _ H.out);have E:=O (aw.keep (λg b=>a.block g b.2) _ _ F.out);have K:=O a.size;refine h _ _ ⟨az y.1 a,az y.2 a⟩ λS=>?_
 have s:=O S;clear h a y S Q H F;refine L ?_;refine ar T (λz h=>?_);go_simp;refine(x _ _ x2 (aw.mono (λg b=>jz b.2 (jA R K)) _ _ u.out) (aw.mono (λg b=>jz b.2 K) _ _ E.out)).mono ?_;rintro e g ⟨rfl,a⟩;have b:=ac t a;refine h _ _ ⟨az s.1 a,az s.2 a⟩ λ_=>?_
 clear h a s t u E;refine L ?_;refine bi ?_;refine jL ?_
 go_wp2_with fail
 go_ret;exact⟨T,p.trans (b.mono p.size)⟩
def yq(f:jf):Prop:=∀(R:jf) (l:af) (w:jg) (a:jf),a+f=16->RdC w R l->l.length<=1000000->
 jr jl 143 #[jC (jb ⟨R,0,ja⟩),I N (a:jh)] w (Dl R w (cM f l))
theorem Be(f:jf):cM f []=ja:=by cases f<;>rfl
theorem BL(f:jf)(l:af):cM f (1#8::l)=(cC 9 0 l).map λr=>(.mk 1 (gt r.1) emS [],r.2):=by cases f<;>rfl
theorem Gi(f:jf)(l:af):cM f (2#8::l)=(eK l).map λr=>(.mk 2 0 (ofB (r.2.take r.1)) [],r.2.drop r.1):=by cases f<;>rfl
theorem BR(l:af):cM 0 (3#8::l)=ja:=T
theorem zV(f:jf)(l:af):cM (f+1) (3#8::l)=(eK l).bind λr=>(ei (cM f) r.1 r.2).map λq=>(.mk 3 0 emS q.1,q.2):=T
theorem By(f:jf)(b:BitVec 8)(l:af)(a:b≠1#8)(c:b≠2#8)(d:b≠3#8):cM f (b::l)=ja:=by
 cases f<;>simp only[cM,jG a,jG c,jG d]
theorem fl:(jl.info? 128).map (·.size)=jb 4:=by kernel_rfl
theorem RdC.keepR{l:af}(h:RdC w R l)(hk:∀k,k<=R->w'.heap[k]?=w.heap[k]?):RdC w' R l:=by
 obtain⟨p,c,a,b⟩:=h;exact⟨p,c,(hk R (jn _)).trans a,b.keep (λg (d:g<R)=>hk g Y)⟩
theorem tV(h:ln M w a)(n:R<=M):aM b R w a:=⟨h.os,h.tape,h.output,jR h.size.symm,λk hk _=>h.block k Y⟩
theorem uh{l:af}{r:jf×af}(h:eK l=jb r):r.2.length<=l.length:=by
 unfold eK at h
 cases hh:cC 9 0 l with
 |none=>rw[hh]at h;cases h
 |some q=>
  rw[hh,jT]at h
  split at h
  ·injection h with h;rw[<-h];exact sG _ _ _ _ hh
  cases h
theorem Ag{g:af->jB (Val×af)}(a:∀l r,g l=jb r->r.2.length<=l.length):∀(n:jf) (l:af) (q:ji Val×af),ei g n l=jb q->q.2.length<=l.length
 |0,l,q,h=>by
  rw[ei]at h;injection h with h
  rw[<-h];exact jn _
 |n+1,l,q,h=>by
  rw[ei]at h
  cases h1:g l with
  |none=>rw[h1]at h;cases h
  |some r=>
   rw[h1,jT]at h
   cases h2:ei g n r.2 with
   |none=>rw[h2]at h;cases h
   |some b=>
    rw[h2]at h;injection h with h
    rw[<-h];exact jA (Ag a n r.2 b h2) (a l r h1)
theorem yX:∀(f:jf) (l:af) (r:Val×af),cM f l=jb r->r.2.length<=l.length
 |f,[],r,h=>by rw[Be]at h;cases h
 |f,b::l,r,h=>by
  by_cases d:b=1#8
  ·subst d
   rw[BL]at h
   cases a:cC 9 0 l with
   |none=>rw[a]at h;cases h
   |some q=>
    rw[a]at h;injection h with h
    rw[<-h];have:=sG _ _ _ _ a;simp;omega
  by_cases a:b=2#8
  ·subst a
   rw[Gi]at h
   cases c:eK l with
   |none=>rw[c]at h;cases h
   |some q=>
    rw[c]at h;injection h with h
    rw[<-h];have:=uh c;simp;omega
  by_cases c:b=3#8
  ·subst c
   cases f with
   |zero=>rw[BR]at h;cases h
   |succ f=>
    rw[zV]at h
    cases h4:eK l with
    |none=>rw[h4]at h;cases h
    |some q=>
     rw[h4,jT]at h
     cases h5:ei (cM f) q.1 q.2 with
     |none=>rw[h5]at h;cases h
     |some e=>
      rw[h5]at h;injection h with h
      rw[<-h];have:=uh h4;have:=Ag (yX f) _ _ _ h5;simp;omega
  rw[By f b l d a c]at h;cases h
theorem DN(f:jf)(e:∀a,f=a+1->yq a):yq f:=by
 intro R l w X bw h hl;obtain⟨ov,a⟩:=J (cM f l);rw[<-a];have P:=O a;clear a;obtain⟨m,a⟩:=J w.heap.size;obtain⟨W1,b⟩:=J (w.alloc (jd #[I N 0,I N 0,je ⟨#[]⟩,A ja 0 0] 128));have c:=jt w (jd #[I N 0,I N 0,je ⟨#[]⟩,A ja 0 0] 128);have s:=ai w (jd #[I N 0,I N 0,je ⟨#[]⟩,A ja 0 0] 128);have g:=h.but (w':=W1) (λk hk=>by rw[b];exact s.block k hk);have bA:R<m:=by rw[a];exact h.lt
 rw[<-b]at c s;rw[<-a]at c;have n:=O c;have d:jc (aM R w.heap.size w W1):=O (aM.of_below s);have o:=O g;have i:=O b;have HA:=O a;have bn:=O e;clear b c s g h e a
 go_enter func143,ntmps143
 go_upto_region 1 with fail
 rw[<-i,<-HA];clear i
 rcases l with _|⟨b,l⟩
 ·have Up:jc (ov=ja):=O (by rw[P,Be])
  go_wp2_with fail
  refine(Dx R 1 [] W1 o ax Y).mono ?_;rintro e w' ⟨rfl,rfl⟩;exact⟨T,d,by rw[Up]⟩
 have al:l.length<=1000000:=by simp at hl;omega
 go_wp2_with fail
 refine(wC R 1 (b::l) W1 o ax hl).mono ?_;rintro e w2 ⟨p,rfl,hs,t,s⟩;obtain⟨-,p',c',e,-,-,hc⟩:=hs;injection e with e1 z B
 subst e1;obtain⟨g,o1,rfl,-,hc⟩:=hc G;have a:w2.cell? ⟨g,o1,ja⟩=jb (I .u8 (b.toNat:jh)):=hc 0 _ T;obtain⟨k,hk⟩:=J b.toNat;have E:k<256:=by rw[hk];exact b.isLt
 rw[<-hk]at a;replace t:RdC w2 R l:=t;have c:=(s.block m (js.1 n).1 Y).trans n;obtain⟨⟨H,c0⟩,K,q,F⟩:=cE (i:=0) (I N (k:jh)) c G;have HK:=O hk;have Se:=O t;have r:=O (d.trans s d.size);have v:(w2.setCell ⟨m,0,ja⟩ (I N (k:jh))).heap[m]?=jb (jd #[I N (k:jh),I N 0,je ⟨#[]⟩,A ja 0 0] 128 (0,0)):=q;have x:RdC (w2.setCell ⟨m,0,ja⟩ (I N (k:jh))) R l:=t.keepR (λj hj=>F.block j Y);have y:aM R w.heap.size w (w2.setCell ⟨m,0,ja⟩ (I N (k:jh))):=r.trans (tV F (by rw[HA];exact jn _)) (jn _);have C:=O v;have Ss:=O x;have u:=O y;clear c q v F x y t s hc hk z B n d o r
 go_upto_region 2 with fail
 obtain⟨W3,c⟩:=J (w2.setCell ⟨m,0,ja⟩ (I N (k:jh)));rw[<-c]at C Ss u⊢;clear c c0 K a H;obtain⟨H,a⟩:∃H:jh,H=(k:jh):=⟨_,T⟩;rw[<-a]at C⊢;have aa:jc (∀n:jf,n<256->H=(n:jh)->b=qC 8 n):=O (λn c h=>BitVec.eq_of_toNat_eq (by have hk:=HK.out;rw[qD];omega));have YU:jc (∀n:jf,n<256->b=qC 8 n->H=(n:jh)):=O (λn c h=>by have hk:=HK.out;rw[a,hk,h,qD];omega);have bB:0<=H:=Y;clear a E;have c0:=ae (i:=0) C T
 by_cases h1:H=1
 ·have au:=aa 1 G h1
  subst h1;obtain rfl:b=1#8:=au;have E:jc (ov=(cC 9 0 l).map λr=>(.mk 1 (gt r.1) emS [],r.2)):=O (by rw[P,BL]);have c:=O (Dw R l W3 Ss al);obtain⟨o,a⟩:=J (cC 9 0 l);have Q:=O (fun(r:jf×af) (h:o=jb r)=>AL (l:=l) (r:=r) (by rw[<-a];exact h));rw[<-a]at c E;clear a aa YU P
  go_wp2_with fail
  refine c.mono ?_;rintro e M ⟨s,K⟩
  rcases o with _|q
  ·obtain rfl:e=.panicked iz:=K
   exact⟨T,u.trans s u.size,by rw[E];rfl⟩
  obtain⟨a1,r⟩:=q;obtain⟨rfl,t⟩:=K;have U:a1<18446744073709551616:=Q _ T;have S:=O t;have d:=O ((s.block m (js.1 C).1 Y).trans C);have x:=O (u.trans s u.size);clear t s C Ss u c Q c0
  go_wp2_with fail
  refine(NS a1 U M).mono ?_;rintro e w5 ⟨rfl,rfl⟩;obtain⟨v,y⟩:=J (gt a1);rw[<-y];have a2:=O y;clear y;obtain⟨⟨v1,c1⟩,f1,V,F⟩:=cE (i:=1) (I N v) d ax;have B:jc ((M.setCell ⟨m,1,ja⟩ (I N v)).heap[m]?=jb (jd #[I N 1,I N v,je ⟨#[]⟩,A ja 0 0] 128 (0,0))):=O V;have W:=O (S.keepR (λj hj=>F.block j Y));have ad:=O (x.trans (tV F (by rw[HA];exact jn _)) (jn _));have HE:jc (ov=jb (.mk 1 v emS [],r)):=O (by rw[E,a2];rfl);clear V F S d x
  go_upto_region 14 with fail
  generalize M.setCell ⟨m,1,ja⟩ (I N v)=z at B W ad⊢;clear c1 f1
  go_wp2_with (first|(refine jQ T 128 _ T m T 128 #[I N 1,I N v,je ⟨#[]⟩,A ja 0 0] (0,0) _ B.out j1 T fl ?_)|(refine jJ T λ_ y=>jE 128 _ _ T m #[I N 1,I N v,je ⟨#[]⟩,A ja 0 0] T T 128 _ B.out fl T (by simp[jH]) (y _ _ ?_)))
  rw[dR B];exact jW (lo T _ _ m 128 #[I N 1,I N v,je ⟨#[]⟩,A ja 0 0] (0,0) _ T B j1 T fl) T ⟨ad,by rw[HE];exact⟨⟨_,T,(by rw[aw];exact⟨[],⟨T,ja,0,T,jn _,λ_=>rfl,λh=>jZ h G⟩,by rw[aC]⟩)⟩,W⟩⟩
 by_cases h2:H=2
 ·have au:=aa 2 G h2
  subst h2;obtain rfl:b=2#8:=au;have E:jc (ov=(eK l).map λr=>(.mk 2 0 (ofB (r.2.take r.1)) [],r.2.drop r.1)):=O (by rw[P,Gi]);have c:=O (F7 R l W3 Ss al);obtain⟨o,a⟩:=J (eK l);have Q:=O (fun(r:jf×af) (h:o=jb r)=>uh (l:=l) (r:=r) (by rw[<-a];exact h));rw[<-a]at c E;clear a aa YU h1 P
  go_wp2_with fail
  refine c.mono ?_;rintro e M ⟨s,K⟩
  rcases o with _|q
  ·obtain rfl:e=.panicked iz:=K
   exact⟨T,u.trans s u.size,by rw[E];rfl⟩
  obtain⟨n,r⟩:=q;obtain⟨rfl,t,a2⟩:=K;have SL:r.length<=1000000:=jA (Q _ T) al;have S:=O t;have d:=O ((s.block m (js.1 C).1 Y).trans C);have x:=O (u.trans s u.size);clear t s C Ss u c Q c0
  go_wp2_with fail
  refine(wC R n r M S a2 SL).mono ?_;rintro e w5 ⟨p,rfl,hs,t,s⟩;have kc:=mR (ay.bytes (D:=(·<R)) (w:=w5) (v:=A p n n) (l:=r.take n) (by rw[kn,Nat.min_eq_left a2];exact hs));rw[rV]at kc;obtain⟨U,SZ⟩:=J (ofB (r.take n));rw[<-SZ]at kc;have a3:=O SZ;have Vi:=O t;have YX:=O ((s.block m (js.1 d).1 Y).trans d);have RX:=O (x.trans s x.size);clear SZ t s hs d S x;obtain⟨⟨v1,c1⟩,f1,V,F⟩:=cE (i:=2) (je U) YX ax;have B:jc ((w5.setCell ⟨m,2,ja⟩ (je U)).heap[m]?=jb (jd #[I N 2,I N 0,je U,A ja 0 0] 128 (0,0))):=O V;have W:=O (Vi.keepR (λj hj=>F.block j Y));have ad:=O (RX.trans (tV F (by rw[HA];exact jn _)) (jn _));have HE:jc (ov=jb (.mk 2 0 U [],r.drop n)):=O (by rw[E,a3];rfl);clear V F Vi YX RX
  go_upto_region 14 with fail
  generalize w5.setCell ⟨m,2,ja⟩ (je U)=z at B W ad⊢;clear c1 f1 kc
  go_wp2_with (first|(refine jQ T 128 _ T m T 128 #[I N 2,I N 0,je U,A ja 0 0] (0,0) _ B.out j1 T fl ?_)|(refine jJ T λ_ y=>jE 128 _ _ T m #[I N 2,I N 0,je U,A ja 0 0] T T 128 _ B.out fl T (by simp[jH]) (y _ _ ?_)))
  rw[dR B];exact jW (lo T _ _ m 128 #[I N 2,I N 0,je U,A ja 0 0] (0,0) _ T B j1 T fl) T ⟨ad,by rw[HE];exact⟨⟨_,T,(by rw[aw];exact⟨[],⟨T,ja,0,T,jn _,λ_=>rfl,λh=>jZ h G⟩,by rw[aC]⟩)⟩,W⟩⟩
 by_cases h3:H=3
 ·have au:=aa 3 G h3
  subst h3;obtain rfl:b=3#8:=au;have j:=O (pS (jC (jb ⟨R,0,ja⟩)) W3);have a3:=O (oY (jC (jb ⟨R,0,ja⟩)) W3);clear aa YU h1 h2
  rcases f with _|f
  ·have Up:jc (ov=ja):=O (by rw[P,BR])
   have hd:=ap ((X:jh)<16);have Sm:=ap (X<16)
   go_wp2_with fail
   refine a3.mono ?_;rintro e M ⟨rfl,rfl⟩;exact⟨T,u,by rw[Up]⟩
  have hd:=ao ((X:jh)<16);have Sm:=ao (X<16);have E:jc (ov=(eK l).bind λr=>(ei (cM f) r.1 r.2).map λq=>(.mk 3 0 emS q.1,q.2)):=O (by rw[P,zV]);have c:=O (F7 R l W3 Ss al);obtain⟨o,a⟩:=J (eK l);have Q:=O (fun(r:jf×af) (h:o=jb r)=>uh (l:=l) (r:=r) (by rw[<-a];exact h));rw[<-a]at c E;clear a P
  go_wp2_with fail
  refine j.mono ?_;rintro e M ⟨rfl,rfl⟩
  go_wp2_with fail
  refine c.mono ?_;rintro e M ⟨s,K⟩
  rcases o with _|q
  ·obtain rfl:e=.panicked iz:=K
   exact⟨T,u.trans s u.size,by rw[E];rfl⟩
  obtain⟨n,r⟩:=q;obtain⟨rfl,t,a2⟩:=K;have SL:r.length<=1000000:=jA (Q _ T) al;have S:=O t;have d:=O ((s.block m (js.1 C).1 Y).trans C);have x:=O (u.trans s u.size);clear t s C Ss u c Q c0;obtain⟨o,a⟩:=J (ei (cM f) n r);have SE:jc (ov=o.map λq=>(.mk 3 0 emS q.1,q.2)):=O (by rw[E,a];rfl);have c:jc (o=(ei (cM f) (n-0) r).map λq=>([]++q.1,q.2)):=O (by rw[a];simp);have Q:jc (Vld (m+1) m M [] ci []):=O (Vld.start d (js.1 d).1);have bo:jc (n<=1000000):=O (jA a2 SL);clear a E d j a3
  go_wp2_with fail
  go_loopw [37] (λv wr=>∃(i:jf) (xs:ji Val) (vr:jj) (us:ji jj) (z:af),v=I N i/\i<=n/\jc (xs.length=i)/\jc (o=(ei (cM f) (n-i) z).map λq=>(xs++q.1,q.2))/\jc (Vld (m+1) m wr xs vr us)/\jc (RdC wr R z)/\jc (aM R w.heap.size w wr)/\jc (z.length<=1000000)) (λv _=>n-(jK v).toNat)
  case atStart=>exact⟨0,[],ci,[],r,T,jX _,O T,c,Q,S,x,O SL⟩
  clear c Q S x;obtain⟨i,xs,vr,us,z,rfl,hi,a5,HO,j,ba,SR,bg⟩:=hrel;have bC:=bo.out
  by_cases bI:i<n
  ·have bq:=ao ((i:jh)<(n:jh))
   have br:=ao (i<n);have bK:(i:jh)<(n:jh):=Y;obtain⟨Q,S,a4⟩:=a8 j.own;rw[a5]at a4;subst a4;have x:wr.cell? ⟨m,3,ja⟩=jb (A Q i S):=ae j.box T;obtain⟨o2,a⟩:=J (cM f z);have bb:=O a;have WV:=O (fun(q:Val×af) (h:o2=jb q)=>yX f z q (by rw[<-a];exact h));have U4:jc (∀W,RdC W R z->jr jl 143 #[jC (jb ⟨R,0,ja⟩),I N (ql.wrap ((X:jh)+1))] W (Dl R W o2)):=O (λW c=>by
    have h:=bn f T R z W (X+1) Y c bg;have e1:ql.wrap ((X:jh)+1)=((X+1:jf):jh):=by rw[qv];omega
    rw[e1];rw[<-a]at h;exact h)
   clear a
   go_upto_region 12 with fail
   refine wX (λa=>a.cell? ⟨m,3,ja⟩=jb (A Q i S)) 9 [(0,jp),(1,jp),(2,jp),(3,jp),(4,jp),(5,jo),(6,jo),(7,jo),(8,jp),(9,jo)] ag ag ag G (λc a d v w h=>by cases d<;>exact h) x ?_;obtain⟨wa,d⟩:=J wr.drew;have a:=bz wr;rw[<-d]at a⊢;have V:=O (j.later Y a.size (λk _ hk=>a.block k hk));have bh:=O (ba.but (λk hk=>a.block k hk));have c:=O (SR.trans (aM.of_below a) SR.size);clear a d x j ba SR;iterate 5 refine Aq ?_
   refine bE T (λK' y=>?_);go_simp;refine(U4 wa bh).mono ?_;rintro e W ⟨s,K⟩
   rcases o2 with _|q
   ·obtain rfl:e=.panicked iz:=K
    have Up:jc (ov=ja):=O (by
     have a:n-i=(n-(i+1))+1:=Y;rw[SE,HO,a,ei,<-bb]
     rfl)
    exact⟨T,c.trans s c.size,by rw[Up]⟩
   obtain⟨x,r2⟩:=q;obtain⟨⟨a1,rfl,hv⟩,t⟩:=K;obtain⟨d,v,rfl⟩:=hv.form;obtain⟨xk,US⟩:=J x.k;obtain⟨xn,WC⟩:=J x.n;obtain⟨ad,TE⟩:=J x.s;obtain⟨U,bc⟩:=J x.l.length;dsimp only;rw[<-US,<-WC,<-TE,<-bc];rw[<-bc]at hv;have bs:jc (eS x (A d U v)=[I N xk,I N xn,je ad,A d U v]):=O (by unfold eS;rw[US,WC,TE]);have bM:m≠R:=Y;have bu:jc (o=(ei (cM f) (n-(i+1)) r2).map λq=>((xs++[x])++q.1,q.2)):=O (by
    have a:n-i=(n-(i+1))+1:=Y;rw[HO,a,ei,<-bb,jT,Option.map_map]
    congr 1
    funext q
    simp)
   have bv:jc (r2.length<=1000000):=O (jA (WV _ T) bg);have bd:=O (V.later Y s.size (λk h1 h2=>s.block k h2 Y));have bk:jc (aw (λg=>m+1<=g/\g<W.heap.size/\(jU Q i S).ownBlock≠jb g) W x (A d U v)):=O (aw.mono (λg a=>⟨by have:=V.sz;omega,a.2,cJ V.own (.inl a.1)⟩) _ _ hv);have bl:=O t;have bf:=O (c.trans s c.size);clear s hv t US WC TE bc V bh c WV U4 bb;refine y _ _ (ae bd.box T) λV=>?_
   clear y;refine L ?_;refine bE T (λK' y=>?_);go_simp;have c:=ai W (jd #[I N xk,I N xn,je ad,A d U v] 128);have TV:=eU W [I N xk,I N xn,je ad,A d U v] 128 (0,0) 4 1 1 T (jn _);refine y _ _ (aB V c) λVh=>?_
   clear y V;replace TV:cO (W.alloc (jd #[I N xk,I N xn,je ad,A d U v] 128)) (A (jb ⟨W,0,ja⟩) 1 1) 4 1 [I N xk,I N xn,je ad,A d U v]:=TV;generalize W.alloc (jd #[I N xk,I N xn,je ad,A d U v] 128)=wc at c TV Vh⊢;have Sz:=O TV;have V:=O (bd.later Y c.size (λk _ hk=>c.block k hk));have bh:jc (aw (λg=>m+1<=g/\g<wc.heap.size/\(jU Q i S).ownBlock≠jb g) wc x (A d U v)):=O (aw.mono (λg a=>⟨a.1,jz a.2.1 c.size,a.2.2⟩) _ _ (aw.keep (λg a=>c.block g a.2.1) _ _ bk.out));have bm:=O (bl.but (λk hk=>c.block k hk));have bb:=O (bf.trans (aM.of_below c) bf.size);clear c TV bd bk bl bf;refine L ?_;refine bE T (λK' y=>?_);rw[jv aj];refine iT _ _ T (m+1) (A Q i S) _ _ T V.own _ 1 _ T Sz (by simp[jH]) (by rw[a5];omega) V.sz λv' wd c=>?_
   have RV:=c.own;obtain⟨pn,cn,rfl⟩:=a8 RV;have bc:=eP V.box c.grown (cJ V.own (.inr Y));refine y _ _ (ae bc T) λVg=>?_
   clear y Vh Vg RV;refine L ?_;refine Aq ?_;refine g6 T (λK' y=>?_);obtain⟨⟨vo,c3⟩,f3,bd,YS⟩:=cE (i:=3) (A pn (xs.length+1) cn) bc ax;go_simp;refine y _ _ ?_;have bf:=O (V.push Y (x:=x) bh.out (by rw[bs];exact c) bd YS);have bk:=O ((bm.keepR (w':=wd) (λk hk=>c.grown.block k (bL V.sz) (Ne.symm (cJ V.own (.inr Y))))).keepR (λk hk=>YS.block k Y));have bl:jc (aM R w.heap.size w (wd.setCell ⟨m,3,ja⟩ (A pn (xs.length+1) cn))):=O ((bb.trans (⟨c.grown.os,c.grown.tape,c.grown.output,c.grown.size,λk hk _=>c.grown.block k (bL bb.size) (Ne.symm (cJ V.own (.inr (aA HA))))⟩:aM R w.heap.size wc wd) (jn _)).trans (tV YS (by rw[HA];exact jn _)) (jn _));clear y c3 f3 bd YS c V bh bm bb Sz bc
   go_wp2_with fail
   go_roundw
   case rel=>exact⟨i+1,xs++[x],_,_,r2,by go_num,by omega,O (by rw[mT,a5];rfl),bu,bf,bk,bl,bv⟩
   case measure=>simp only[jK];omega
  obtain rfl:n=i:=Y;have bq:decide ((n:jh)<(n:jh))=jo:=by simp
  have br:decide (n<n)=jo:=by simp
  have HE:jc (ov=jb (.mk 3 0 emS xs,z)):=O (by rw[SE,HO,qk];simp[ei]);have B:=O j.box;have c:jc (aw (λg=>w.heap.size<=g/\g<wr.heap.size) wr (.mk 3 0 emS xs) vr):=O (by
   rw[aw];exact⟨us,ay.of_own j.own (λg a=>⟨by have:=(j.own.lt g a).1;have:=HA.out;omega,(j.own.lt g a).2⟩),aC.mono (λg a=>⟨by have:=HA.out;omega,a.2.1⟩) _ _ j.kids⟩)
  obtain⟨Q,S,a4⟩:=a8 j.own;subst a4;clear j
  go_upto_region 14 with fail
  go_wp2_with (first|(refine jQ T 128 _ T m T 128 #[I N 3,I N 0,je ⟨#[]⟩,A Q xs.length S] (0,0) _ B.out j1 T fl ?_)|(refine jJ T λ_ y=>jE 128 _ _ T m #[I N 3,I N 0,je ⟨#[]⟩,A Q xs.length S] T T 128 _ B.out fl T (by simp[jH]) (y _ _ ?_)))
  rw[dR B];exact jW (lo T _ _ m 128 #[I N 3,I N 0,je ⟨#[]⟩,A Q xs.length S] (0,0) _ T B j1 T fl) T ⟨SR,by rw[HE];exact⟨⟨_,T,c⟩,ba⟩⟩
 have a:b≠1#8/\b≠2#8/\b≠3#8:=⟨λh=>h1 (YU 1 G h),λh=>h2 (YU 2 G h),λh=>h3 (YU 3 G h)⟩;have Up:jc (ov=ja):=O (by rw[P,By f b l a.1 a.2.1 a.2.2]);have c:(H==1)=jo:=ah h1;have d:(H==2)=jo:=ah h2;have j:(H==3)=jo:=ah h3;have a3:=O (oY (jC (jb ⟨R,0,ja⟩)) W3);clear aa YU h1 h2 h3 a
 go_wp2_with fail
 refine a3.mono ?_;rintro e M ⟨rfl,rfl⟩;exact⟨T,u,by rw[Up]⟩
theorem Ky:∀f,yq f:=by
 intro f
 induction f with
 |zero=>exact DN 0 (λa h=>by omega)
 |succ f b=>exact DN (f+1) (λa h=>by cases h;exact b)
structure sU(V E:jf)(w w':jg):Prop where
 os:w'.os=w.os
 tape:w'.tape=w.tape
 output:w'.output=w.output
 size:w'.heap.size=w.heap.size
 block:∀k,k≠V->k≠E->w'.heap[k]?=w.heap[k]?
def dp:ju jj:=#[I N 0,I N 0,je ⟨#[]⟩,A ja 0 0]
theorem MU(b:o.op=.build 128 #[])(W:jg):(kl f.eval o).run jl W=.ok (.value (jk dp)) W:=by
 have h:∀W,(Instr.build 128 #[]).run jl W=.ok (jk dp) W:=λW=>by
  unfold Instr.build;go_simp
  rfl
 simp only[kl,b,qi,ow,Sem.run_bind,h,Result.andThen_ok,Sem.run_pure]
theorem My:∀W,(Instr.typeAssert (.iface 36 (I N 10)) 20 36 jo).run jl W=.ok (I N 10) W:=λ_=>by kernel_rfl
theorem Ly{x:nn}(b:o.op=.typeAssert x 20 36 jo)(c:f.eval x=.iface 36 (I N 10))(W:jg):(kl f.eval o).run jl W=.ok (.value (I N 10)) W:=by
 simp only[kl,b,c,Sem.run_bind,My,Result.andThen_ok,Sem.run_pure]
theorem Rj(V E:jf)(w:jg):CallsD jl 142 #[jC (jb ⟨V,0,ja⟩),jC (jb ⟨E,0,ja⟩)] .returning w λe b w'=>e=jq (j8 #[])/\b=.returning/\w'=w:=by
 refine callsD_of_wpS func142 T λc cs a=>?_
 apply wpS_seq
 apply qg
 simp[wpOpsS,go_sem,recoverD,a,qh,Exit.thenS]
 apply wpS_seq
 apply qg
 simp[wpOpsS,go_sem,recoverD,a,qh,Exit.thenS];refine wpS_cond (t:=jo) (by simp[Act.eval,qb]) ?_;simp only[Bool.false_eq_true,if_false];refine wpS_of_wp (wp_skip ?_)
 cases c
 simp_all [bodyPostS,results,results142]
theorem ES(V E:jf)(l:V≠E)(j:ju jj)(r:j.size=4)(x:jj)(m:ji lr)(w:jg)(d:w.heap[V]?=jb (jd j 128 (0,0)))(f:w.heap[E]?=jb (jd #[x] 36 (0,0))):
 CallsD jl 142 #[jC (jb ⟨V,0,ja⟩),jC (jb ⟨E,0,ja⟩)] (.panicking ({v:=.iface 36 (I N 10),recovered:=jo}::m)) w λe s w'=>
  e=jq (j8 #[])/\s=.panicking ({v:=.iface 36 (I N 10),recovered:=jp}::m)/\w'.heap[V]?=jb (jd dp 128 (0,0))/\w'.heap[E]?=jb (jd #[I N 10] 36 (0,0))/\sU V E w w':=by
 refine callsD_of_wpS func142 T λu cs n=>?_
 apply wpS_seq
 apply qg
 simp[wpOpsS,go_sem,recoverD,n,qh,Exit.thenS]
 apply wpS_seq
 apply qg
 simp[wpOpsS,go_sem,recoverD,n,qh,Exit.thenS];refine wpS_cond (t:=jp) (by simp[Act.eval,qb]) ?_;simp only[if_true];refine wpS_of_wp (show Code.wp _ _ _ {tmps:=#[jC (jb ⟨V,0,ja⟩),jC (jb ⟨E,0,ja⟩),.iface 36 (I N 10),.iface 36 (I N 10),.iface 36 (I N 10),.bool jp,undef,undef,undef],defers:=[]} _ from ?_);refine jO ?_;refine bY (λ_=>True) (.t 0 (.t 1 (.t 2 (.o 3 (.o 4 .done))))) ag ag ag G (λ_ _ _ _ h=>h) trivial ?_;obtain⟨a,c⟩:=J w.drew;have h:a.heap[V]?=jb (jd j 128 (0,0)):=by rw[c];exact d
 have o:a.heap[E]?=jb (jd #[x] 36 (0,0)):=by rw[c];exact f
 have b:sU V E w a:=by rw[c];exact⟨T,T,T,T,λ_ _ _=>rfl⟩
 rw[<-c];clear c d f
 (refine aE (v:=jk dp) T aj (λc d=>MU T c) (L ?_))
 refine bi ?_
 (refine aE (v:=I N 10) T aj (λc d=>Ly T T c) (L ?_))
 refine ar T (λy d=>?_);rw[jv aj];refine jE 128 _ _ T V dp T T 128 _ h fl r (by simp[dp,jH]) ?_;refine d _ _ trivial λ_=>?_
 clear d;have p:(a.setRow V dp).heap[V]?=jb (jd dp 128 (0,0)):=j6 _ _ _ _ _ _ h;have q:=(jy a V E dp (Ne.symm l)).trans o;have c:sU V E w (a.setRow V dp):=⟨b.os,b.tape,b.output,by rw[show(a.setRow V dp).heap.size=a.heap.size by simp[p6]];exact b.size,λk f g=>(jy a V k dp f).trans (b.block k f g)⟩;generalize a.setRow V dp=z at p q c⊢;clear h o b;refine L ?_;refine ar T (λy d=>?_);obtain⟨⟨h,o⟩,y,B,b⟩:=cE (i:=0) (I N 10) q ax;have C:=(b.block V l).trans p;have D:sU V E w (z.setCell ⟨E,0,ja⟩ (I N 10)):=⟨b.os.trans c.os,b.tape.trans c.tape,b.output.trans c.output,b.size.trans c.size,λk f g=>(b.block k g).trans (c.block k f g)⟩;go_simp;refine d _ _ trivial λ_=>?_
 clear d;refine L ?_;refine jL ?_
 cases u
 simp_all [bodyPostS,results,results142]
def O8(w:jg)(o:jB Val)(e:j3)(w':jg):Prop:=
 jm w w w'/\match o with
  |some x=>∃a,e=jq (j8 #[jk #[I N x.k,I N x.n,je x.s,a],I N 0])/\aw (λg=>w.heap.size<=g/\g<w'.heap.size) w' x a
  |none=>e=jq (j8 #[jk dp,I N 10])
theorem Pf(l:af)(p:jB jN)(n c:jf)(w:jg)(F:ay (·<w.heap.size) w (A p n c) 1 l.length (l.map v8))(hl:l.length<=1000000):
 jr jl 71 #[A p n c] w (O8 w (dec l)):=by
 have bf:∀(fn:Fn) (first bb:ju jj) (w:jg),(Instr.makeFunc fn first bb).run jl w=.ok (.func fn first bb) w:=λ_ _ _ _=>rfl
 obtain⟨ov,b⟩:=J (dec l);rw[<-b];have t:=O b;have m:=O F;clear b F
 go_enter_defers func71,ntmps71
 go_upto_region 3 with fail
 have e:=ai w (jd dp 128);have d:=jt w (jd dp 128);have g:=ai (w.alloc (jd dp 128)) (jd #[I N 0] 36);have b:=jt (w.alloc (jd dp 128)) (jd #[I N 0] 36);have h:=ai ((w.alloc (jd dp 128)).alloc (jd #[I N 0] 36)) (jd #[A p n c] 214);have j:=jt ((w.alloc (jd dp 128)).alloc (jd #[I N 0] 36)) (jd #[A p n c] 214);rw[jF]at b;rw[jF,jF]at j;replace d:=az (az d g) h;replace b:=az b h;have k:=(e.trans (g.mono e.size)).trans (h.mono (e.trans (g.mono e.size)).size);obtain⟨U,o⟩:=J (((w.alloc (jd dp 128)).alloc (jd #[I N 0] 36)).alloc (jd #[A p n c] 214));have q:((w.alloc (jd #[I N 0,I N 0,je ⟨#[]⟩,A ja 0 0] 128)).alloc (jd #[I N 0] 36)).alloc (jd #[A p n c] 214)=U:=o.symm;rw[q];rw[<-o]at d b j k;clear o q e g h;obtain⟨V,s⟩:=J w.heap.size;rw[<-s]at d b j⊢;have u:RdC U (V+1+1) l:=by
  obtain⟨o,q,r,e,v⟩:=id m;injection e with x h y
  subst h;refine⟨p,c,j,(m.keep (λg z=>k.block g z)).mono (λg (z:g<w.heap.size)=>by omega)⟩
 have v:=O s;have WX:=O d;have P:=O b;have W:=O k;have U4:=O (Ky 16 (V+1+1) l U 0 T u hl);obtain⟨o,H⟩:=J (cM 16 l);rw[<-H]at U4;have Q:jc (ov=o.bind λr=>if r.2=[]then jb r.1 else ja):=O (by rw[t,H];rfl);have WV:=O (fun(q:Val×af) (h:o=jb q)=>yX 16 l q (by rw[<-H];exact h));clear H d b j k s u t m
 go_wp2_with fail
 refine U4.mono ?_;rintro e m ⟨u,hm⟩;have X:=(u.block V (js.1 WX).1 Y).trans WX;have au:=(u.block (V+1) (js.1 P).1 Y).trans P;have a1:jm w w m:=W.trans ⟨u.os,u.tape,u.output,u.size,λk hk=>u.block k (bL W.size) (aA v)⟩
 rcases o with _|q
 ·obtain rfl:e=.panicked iz:=hm
  have b:jc (ov=ja):=O (by rw[Q];rfl);refine qs (f:=142) (args:=#[jC (jb ⟨V,0,ja⟩),jC (jb ⟨V+1,0,ja⟩)]) ax (by simp[go_sem]) ?_;refine(ES V (V+1) Y dp T _ _ m X au).mono ?_;rintro e u' Wv ⟨rfl,rfl,C,aa,y⟩;have E:jm w w Wv:=a1.trans ⟨y.os,y.tape,y.output,jR y.size.symm,λk hk=>y.block k (aA v) (aA v)⟩;have K:=ae (i:=0) C T;have c1:=ae (i:=1) C T;have M:=ae (i:=2) C T;have c3:=ae (i:=3) C T;have e0:=ae (i:=0) aa T;have ad:=b.out;clear C aa b Q WV U4 WX P W v X au a1 u y;simp[Leaves,settle,results,results71,go_sem,K,c1,M,c3,e0];rw[ad];exact⟨E,T⟩
 obtain⟨x,r⟩:=q;obtain⟨⟨bg,rfl,F⟩,hr⟩:=hm;obtain⟨b,d,rfl⟩:=F.form;obtain⟨s,US⟩:=J x.k;obtain⟨t,WC⟩:=J x.n;obtain⟨xs,TE⟩:=J x.s;obtain⟨j,a3⟩:=J x.l.length;dsimp only;rw[<-US,<-WC,<-TE,<-a3];rw[<-a3]at F;have bd:=O (And.intro US (And.intro WC TE));have C:(m.setRow V #[I N s,I N t,je xs,A b j d]).heap[V]?=jb (jd #[I N s,I N t,je xs,A b j d] 128 (0,0)):=j6 _ _ _ _ _ _ X;have aa:=(jy m V (V+1) #[I N s,I N t,je xs,A b j d] Y).trans au;have a4:∀k,k≠V->(m.setRow V #[I N s,I N t,je xs,A b j d]).heap[k]?=m.heap[k]?:=λk hk=>jy m V k _ hk
 have y:=nz a1 (jR v.symm) #[I N s,I N t,je xs,A b j d];obtain⟨p2,M,a5⟩:=hr.cell;obtain⟨ba,hN⟩:=J r.length;rw[<-hN]at a5;have d0:(m.setRow V #[I N s,I N t,je xs,A b j d]).cell? ⟨V+1+1,0,ja⟩=jb (A p2 ba M):=(bX (a:=⟨V+1+1,0,ja⟩) (a4 (V+1+1) Y)).trans a5;have a2:=O X;have B:=O C;have R:=O aa;have S:=O y;have bc:(m.setRow V #[I N s,I N t,je xs,A b j d]).heap.size=m.heap.size:=by simp[p6]
 have al:jc (aw (λg=>w.heap.size<=g/\g<(m.setRow V #[I N s,I N t,je xs,A b j d]).heap.size/\V+1<g) (m.setRow V #[I N s,I N t,je xs,A b j d]) x (A b j d)):=O (aw.mono (D:=λg=>U.heap.size<=g/\g<m.heap.size) (λg z=>⟨by have:=W.size;omega,by rw[bc];exact z.2,by have:=(js.1 P).1;omega⟩) _ _ (aw.keep (λg (z:U.heap.size<=g/\g<m.heap.size)=>a4 g (by have:=(js.1 P).1;omega)) _ _ F));have Zk:=O hN;clear US WC TE a3 X C aa y a4 hr a5 F au a1 u hN bc WX P W U4 WV
 by_cases hz:ba=0
 ·subst hz
  have F:jc (ov=jb x):=O (by rw[Q,jT,jv (qj Zk.symm)]);clear Zk Q
  go_wp2_with (refine jJ T λ_ P=>jE 128 _ _ T V #[I N s,I N t,je xs,A b j d] T T 128 _ a2.out fl T (by simp[jH]) (P _ _ ?_))
  generalize m.setRow V #[I N s,I N t,je xs,A b j d]=y at B R S al⊢;refine(pS _ y).mono ?_;rintro e w6 ⟨rfl,rfl⟩;clear d0;have u:=dR B;obtain⟨⟨v0,K⟩,f0,C,H⟩:=cE (i:=0) (I N 0) R ax;rw[<-u]at K f0;have HS:=O u;have WK:=O C;have W:=O H;clear u C H
  go_wp2_with (first|(refine jQ T 128 _ T V T 128 #[I N s,I N t,je xs,A b j d] (0,0) _ B.out j1 T fl ?_)|(refine jJ T λ_ P=>jE 128 _ _ T V #[I N s,I N t,je xs,A b j d] T T 128 _ B.out fl T (by simp[jH]) (P _ _ ?_)))
  rw[HS];refine qs (f:=142) (args:=#[jC (jb ⟨V,0,ja⟩),jC (jb ⟨V+1,0,ja⟩)]) ax (by simp[go_sem]) ?_;refine(Rj V (V+1) _).mono ?_;rintro e u' Wv ⟨rfl,rfl,rfl⟩;have u:=(W.block V Y).trans B;have C:=WK.out;have X:jm w w (y.setCell ⟨V+1,0,ja⟩ (I N 0)):=S.trans (W.below (aA v));have Zd:aw (λg=>w.heap.size<=g/\g<(y.setCell ⟨V+1,0,ja⟩ (I N 0)).heap.size) (y.setCell ⟨V+1,0,ja⟩ (I N 0)) x (A b j d):=aw.mono (D:=λg=>w.heap.size<=g/\g<y.heap.size/\V+1<g) (λg z=>⟨z.1,by rw[W.size];exact z.2.1⟩) _ _ (aw.keep (λg (z:w.heap.size<=g/\g<y.heap.size/\V+1<g)=>W.block g Y) _ _ al.out);generalize y.setCell ⟨V+1,0,ja⟩ (I N 0)=w6 at u C X Zd⊢;have K:=ae (i:=0) u T;have c1:=ae (i:=1) u T;have M:=ae (i:=2) u T;have c3:=ae (i:=3) u T;have e0:=ae (i:=0) C T;have ad:=F.out;have g:=bd.out;clear u C F v a2 B R S al HS WK W f0;simp[Leaves,settle,results,results71,go_sem,K,c1,M,c3,e0];rw[ad];exact⟨X,_,by rw[g.1,g.2.1,g.2.2],Zd⟩
 have g:((ba:jh)==0)=jo:=by simp;omega
 have F:jc (ov=ja):=O (by rw[Q,jT,jG (λh=>hz (by rw[Zk];simp at h;rw[h];rfl))]);clear Zk Q
 go_wp2_with (refine jJ T λ_ P=>jE 128 _ _ T V #[I N s,I N t,je xs,A b j d] T T 128 _ a2.out fl T (by simp[jH]) (P _ _ ?_))
 generalize m.setRow V #[I N s,I N t,je xs,A b j d]=y at B R S al d0⊢;refine(oY _ y).mono ?_;rintro e w6 ⟨rfl,rfl⟩;refine qs (f:=142) (args:=#[jC (jb ⟨V,0,ja⟩),jC (jb ⟨V+1,0,ja⟩)]) ax (by simp[go_sem]) ?_;refine(ES V (V+1) Y _ T _ _ y B R).mono ?_;rintro e u' Wv ⟨rfl,rfl,u,C,E⟩;have X:jm w w Wv:=S.trans ⟨E.os,E.tape,E.output,jR E.size.symm,λk hk=>E.block k (aA v) (aA v)⟩;have K:=ae (i:=0) u T;have c1:=ae (i:=1) u T;have M:=ae (i:=2) u T;have c3:=ae (i:=3) u T;have e0:=ae (i:=0) C T;have ad:=F.out;clear u C F v E a2 B R S al d0;simp[Leaves,settle,results,results71,go_sem,K,c1,M,c3,e0];rw[ad];exact⟨X,T⟩
def b9:ji lr:=[{v:=.iface 133 (jk #[]),recovered:=jo}]
theorem ay.dropK{p b:jB jN}{a c n sz:jf}(h:ay D w (A p a c) sz a xs)(y:n<=a)(f:b=ja->p=ja)(i:0<a-n->∀g o,p=jb ⟨g,o,ja⟩->b=jb ⟨g,o+n*sz,ja⟩):ay D w (A b (a-n) (c-n)) sz (a-n) (xs.drop (n*sz)):=by
 obtain⟨k,z,B,e,C,l,m⟩:=h;injection e with q E r
 subst q;subst r;refine⟨by rw[List.length_drop,k,Nat.sub_mul],b,c-n,T,by omega,λs=>by have:=l (f s);omega,λt=>?_⟩;obtain⟨g,o,ep,u,v⟩:=m Y;refine⟨g,o+n*sz,i t g o ep,u,λj x d=>?_⟩;rw[Nat.add_assoc];exact v (n*sz+j) x (by rw[List.getElem?_drop]at d;exact d)
theorem Kj{U:lm}(t e:jM)(k:jf)(b:U.underlying t=jb (.slice e))(i:∀w,(sizeOf e).run U w=.ok k w)(p:jB jN)(n c l:jf)(m:l<=n)(q:n<=c)(j:p=ja->c=0):
 ∃d,(∀W,(Instr.sliceAt t (A p n c) (jb (I N (l:jh))) ja ja).run U W=.ok (A d (n-l) (c-l)) W)/\(d=ja->p=ja)/\(0<n-l->∀g o,p=jb ⟨g,o,ja⟩->d=jb ⟨g,o+l*k,ja⟩):=by
 have he:U.elem t=e:=by simp[Program.elem,b]
 rcases p with _|a
 ·obtain rfl:=j T
  obtain rfl:n=0:=Y;obtain rfl:l=0:=Y;refine⟨ja,λW=>?_,λ_=>rfl,λh=>jZ h Y⟩;rw[run_sliceAt_slice W t _ _ _ _ (by rw[he];exact b),run_slice_l W t _ 0 0 (by rw[he];exact b) .i64 _ Y Y,he];simp[i,Result.andThen,sliced]
 refine⟨jb (if c=l then a else a.add (l*k)),λW=>?_,λh=>(by cases h),λh g o f=>?_⟩
 ·rw[run_sliceAt_slice W t _ _ _ _ (by rw[he];exact b),run_slice_l W t _ n c (by rw[he];exact b) .i64 _ Y Y,he]
  simp[i,Result.andThen,sliced]
  by_cases h:c=l
  ·simp[h]
  rw[jG Y,jG h]
 injection f with f
 subst f;rw[jG Y];simp[Addr.add]
theorem Es(R B:jf)(w:jg)(cs:ju jj):aM R B w (w.setRow B cs):=⟨T,T,T,jR (by simp[p6]),λk hk _=>jy _ _ _ _ Y⟩
theorem IP:∀w,(sizeOf 128).run jl w=.ok 4 w:=λw=>by go_simp
def bj(N0:jf)(w:jg)(R:jf)(l:ji Val):Prop:=
 ∃(p:jB jN) (c:jf) (a:ji jj),w.heap[R]?=jb (jd #[A p l.length c] 216 (0,0))/\ay (·<N0) w (A p l.length c) 4 l.length (bU l a)/\aC (·<N0) w l a
theorem bj.keep{l:ji Val}(h:bj N0 w R l)(a:w'.heap[R]?=w.heap[R]?)(hk:∀k,k<N0->w'.heap[k]?=w.heap[k]?):bj N0 w' R l:=by
 obtain⟨p,c,b,d,e,f⟩:=h;exact⟨p,c,b,a.trans d,e.keep hk,aC.keep hk _ _ f⟩
theorem bj.lt(h:bj b w M r):M<w.heap.size:=by
 obtain⟨p,c,N0,a,-⟩:=h;exact(js.1 a).1
theorem bj.below{l:ji Val}(h:bj N0 w R l)(b:N0<=R)(a:jm w w w'):bj N0 w' R l:=
 h.keep (a.block R h.lt) (λk hk=>a.block k (bL h.lt))
theorem bj.new{l:ji Val}{a:jj}(e:x.l=l)(h:aw (·<N0) w x a)(j:N0<=w.heap.size):bj N0 (w.alloc (jd #[a] 216)) w.heap.size l:=by
 obtain⟨k,n,s,b⟩:=x;obtain rfl:b=l:=e;rw[aw]at h;obtain⟨f,d,i⟩:=h;obtain⟨p,c,rfl⟩:=d.form;have hk:∀g,g<N0->(w.alloc (jd #[A p b.length c] 216)).heap[g]?=w.heap[g]?:=λg m=>qc _ _ _ Y
 exact⟨p,c,f,jt _ _,d.keep hk,aC.keep hk _ _ i⟩
def Hl(N0 R:jf)(w:jg)(o:jB (Val×ji Val))(e:j3)(w':jg):Prop:=
 aM R w.heap.size w w'/\match o with
  |some r=>(∃a,e=jq (jk #[I N r.1.k,I N r.1.n,je r.1.s,a])/\aw (·<N0) w' r.1 a)/\bj N0 w' R r.2
  |none=>e=.panicked b9
theorem Ro(h:bj b w M (x::r)):∃g o c a N0 i,w.heap[M]?=jb (jd #[A (jb ⟨g,o,ja⟩) (r.length+1) c] 216 (0,0))/\r.length+1<=c/\g<b/\
 w.cell? ⟨g,o,ja⟩=jb (I N x.k)/\w.cell? ⟨g,o+1,ja⟩=jb (I N x.n)/\w.cell? ⟨g,o+2,ja⟩=jb (je x.s)/\w.cell? ⟨g,o+3,ja⟩=jb (A a x.l.length N0)/\
 aw (·<b) w x (A a x.l.length N0)/\ay (·<b) w (A (jb ⟨g,o,ja⟩) (r.length+1) c) 4 (r.length+1) (bU (x::r) (A a x.l.length N0::i))/\aC (·<b) w r i:=by
 obtain⟨p,c,i,m,j,d⟩:=h;rw[aC]at d;obtain⟨v,n,rfl,k,d⟩:=d;obtain⟨a,N0,rfl⟩:=k.form;obtain⟨y,z,B,e,q,C,l⟩:=id j;injection e with s D t
 subst s;subst t;obtain⟨g,o,rfl,u,f⟩:=l ax;exact⟨g,o,c,a,N0,n,m,q,u,f 0 _ T,f 1 _ T,f 2 _ T,f 3 _ T,k,j,d⟩
theorem uE(N0 R:jf)(hN:N0<=R)(k:jh)(l:ji Val)(w:jg)(h:bj N0 w R l)(Q:l.length<=1000000):
 jr jl 148 #[jC (jb ⟨R,0,ja⟩),I N k] w (Hl N0 R w (nx k l)):=by
 have b:=ai w (jd dp 128);have c:=jt w (jd dp 128);have j:=h.below hN b;have a3:=h.lt;obtain⟨B,a⟩:=J w.heap.size;obtain⟨d,e⟩:=J (w.alloc (jd dp 128));have f:w.alloc (jd #[I N 0,I N 0,je ⟨#[]⟩,A ja 0 0] 128)=d:=e.symm;have g:d.heap.size=B+1:=by rw[e,a];simp
 rw[<-e]at b c j;rw[<-a]at c a3;have HX:=O c;have y:=O b;have TJ:=O a;have u:=O g;have m:=O f;clear f e c b g;obtain⟨ov,b⟩:=J (nx k l);rw[<-b];have H:=O b
 go_enter func148,ntmps148
 go_upto_region 1 with fail
 rw[m,<-a];clear m a b h
 rcases l with _|⟨x,l⟩
 ·obtain⟨p,c,K,e,-,-⟩:=j
  have z:=ae (i:=0) e T;have a:jc (ov=ja):=O (by rw[H];rfl);have b:d.cell? ⟨R,0,ja⟩=jb (A p 0 c):=z;clear z e
  go_wp2_with fail
  exact⟨T,aM.of_below y,by rw[a];rfl⟩
 obtain⟨g,o,c,f,m,K,e,s,hg,U,V,X,d3,C,t,S⟩:=Ro j;have z:=ae (i:=0) e T;obtain⟨a,D⟩:=J l.length;obtain⟨b,v⟩:=J x.k;obtain⟨p,E⟩:=J x.n;obtain⟨xs,F⟩:=J x.s;obtain⟨q,M⟩:=J x.l.length;have bb:a<=1000000:=by simp at Q;omega
 rw[<-D]at e z s t;rw[<-M]at d3 C t;rw[<-v]at U;rw[<-E]at V;rw[<-F]at X;obtain⟨r,e5,e6,e7⟩:=Kj 216 128 4 underlying216 IP (jb ⟨g,o,ja⟩) (a+1) c 1 Y s (λh=>by cases h);have bc:∀W,(Instr.sliceAt 216 (A (jb ⟨g,o,ja⟩) (a+1) c) (jb (I N 1)) ja ja).run jl W=.ok (A r a (c-1)) W:=e5;have hd:=t.dropK (n:=1) Y e6 e7;have aa:ay (·<N0) d (A r a (c-1)) 4 a (bU l K):=hd;have HD:=O aa;have HU:=O C;have HV:=O S;have H1:=O e;have Uv:=O D;have P:=O (And.intro v (And.intro E F));have bd:=O M;have HC:=O s;have a4:((a+1:jf):jh)≠0:=Y;have a5:(((a:jh)+1)==0)=jo:=by simp;omega
 clear j Q hd aa t C S e D E F M e5 e6 e7 s
 by_cases hk:b=k
 ·have t1:(b !=k)=jo:=ah hk
  have M:jc (ov=jb (x,l)):=O (by rw[H,nx,jv (by rw[<-v];exact hk)]);clear v hk;have j:=ai d (jd #[I N b,I N p,je xs,A f q m] 128);have C:=jt d (jd #[I N b,I N p,je xs,A f q m] 128);rw[u]at C;obtain⟨t,D⟩:=J (d.alloc (jd #[I N b,I N p,je xs,A f q m] 128));rw[<-D]at j C;have aa:t.heap.size=B+2:=by rw[D];simp[u.out]
  have Q:=(j.block R (aA u)).trans H1;have ad:=(j.block B (aA u)).trans HX;have ba:=ae (i:=0) Q T;obtain⟨-,f0,al,E⟩:=cE (i:=0) (A r a (c-1)) Q ax;have au:=(E.block (B+1) Y).trans C;have a1:=(E.block B Y).trans ad;have a2:=O D;have F:=O j;have Ss:=O al;have S:=O a1;have S0:=O au;have s:=O E;have R7:=O aa;have bf:=u.out;clear D j Q ad al E au a1 C aa
  go_upto_region 4 with fail
  rw[<-a2];clear U V X d3 z a2
  go_upto_region 5 with fail
  have C:(t.setCell ⟨R,0,ja⟩ (A r a (c-1))).heap.size=B+2:=by rw[s.size,R7]
  have E:∀j,j<B+1->j≠R->(t.setCell ⟨R,0,ja⟩ (A r a (c-1))).heap[j]?=d.heap[j]?:=λj e h2=>(s.block j h2).trans (F.block j (by rw[u];exact e))
  have Q:=O E;have TK:jc (aM R w.heap.size w (t.setCell ⟨R,0,ja⟩ (A r a (c-1)))):=O ((aM.of_below (y.trans (F.mono y.size))).trans (⟨s.os,s.tape,s.output,jR s.size.symm,λk _ hk=>s.block k hk⟩:aM R t.heap.size t _) (by have:=y.size;have:=F.size;omega));obtain⟨D,aa⟩:=J (t.setCell ⟨R,0,ja⟩ (A r a (c-1)));rw[<-aa]at Ss S S0 Q TK C⊢;clear aa ba f0 E s F a4 a5;have E:=O C;clear C
  go_wp2_with (first|(refine jQ T 128 _ T (B+1) T 128 #[I N b,I N p,je xs,A f q m] (0,0) _ S0.out j1 T fl ?_)|(refine jJ T λ_ s=>jE 128 _ _ T B #[I N b,I N p,je xs,A f q m] T T 128 _ S.out fl T (by simp[jH]) (s _ _ ?_)))
  have C:=j6 D B _ #[I N b,I N p,je xs,A f q m] _ _ S.out;refine jW (lo T _ _ B 128 #[I N b,I N p,je xs,A f q m] (0,0) _ T C j1 T fl) T ⟨?_,?_⟩
  ·refine TK.trans (Es R B D _) (by rw[TJ];exact jn _)
  rw[M];have s:∀j,j<N0->(D.setRow B #[I N b,I N p,je xs,A f q m]).heap[j]?=d.heap[j]?:=λj F=>(jy _ _ _ _ Y).trans (Q j Y Y)
  refine⟨⟨_,by rw[P.1,P.2.1,P.2.2],?_⟩,r,c-1,K,?_,?_,?_⟩
  ·exact aw.keep s _ _ HU.out
  ·rw[<-Uv]
   exact(jy _ _ _ _ Y).trans Ss
  ·rw[<-Uv];exact HD.keep s
  exact aC.keep s _ _ HV.out
 have t1:(b !=k)=jp:=ah hk;have M:jc (ov=ja):=O (by rw[H,nx,jG (by rw[<-v];exact hk)]);clear v
 go_wp2_with fail
 exact⟨T,aM.of_below y,by rw[M];rfl⟩
def Qz(N0 R:jf)(w:jg)(o:jB (jh×ji Val))(e:j3)(w':jg):Prop:=
 aM R w.heap.size w w'/\match o with
  |some r=>e=jq (I N r.1)/\bj N0 w' R r.2
  |none=>e=.panicked b9
def J3(N0 R:jf)(w:jg)(o:jB (ByteArray×ji Val))(e:j3)(w':jg):Prop:=
 aM R w.heap.size w w'/\match o with
  |some r=>e=jq (je r.1)/\bj N0 w' R r.2
  |none=>e=.panicked b9
def Ia(N0 R:jf)(w:jg)(o:jB (af×ji Val))(e:j3)(w':jg):Prop:=
 aM R w.heap.size w w'/\match o with
  |some r=>e=jq (jk (r.1.map v8).toArray)/\bj N0 w' R r.2
  |none=>e=.panicked b9
def Hi(N0 R:jf)(w:jg)(o:jB ((jh×af)×ji Val))(e:j3)(w':jg):Prop:=
 aM R w.heap.size w w'/\match o with
  |some r=>(∃a,e=jq (jk #[I N r.1.1,a])/\ay (λg=>w.heap.size<=g/\g<w'.heap.size) w' a 1 r.1.2.length (r.1.2.map v8))/\bj N0 w' R r.2
  |none=>e=.panicked b9
def Ox(N0 R:jf)(w:jg)(o:jB (ji Val×ji Val))(e:j3)(w':jg):Prop:=
 aM R w.heap.size w w'/\match o with
  |some r=>(∃B a,e=jq (.func (.func 204) #[] #[jC (jb ⟨B,0,ja⟩)])/\w.heap.size<=B/\w'.heap[B]?=jb (jd #[a] 107 (0,0))/\aw (·<N0) w' (vL r.1) a)/\bj N0 w' R r.2
  |none=>e=.panicked b9
theorem O7(k n:jh)(s:ByteArray)(a:jj)(W:jg):(Instr.field 128 (jk #[I N k,I N n,je s,a]) 1).run jl W=.ok (I N n) W:=by kernel_rfl
theorem Kn(k n:jh)(s:ByteArray)(a:jj)(W:jg):(Instr.field 128 (jk #[I N k,I N n,je s,a]) 2).run jl W=.ok (je s) W:=by kernel_rfl
theorem Eg(k n:jh)(s:ByteArray)(a:jj)(W:jg):(Instr.field 128 (jk #[I N k,I N n,je s,a]) 3).run jl W=.ok a W:=by kernel_rfl
theorem fY(N0 R:jf)(f:N0<=R)(l:ji Val)(w:jg)(h:bj N0 w R l)(g:l.length<=1000000):
 jr jl 145 #[jC (jb ⟨R,0,ja⟩)] w (Qz N0 R w (rI l)):=by
 have i:=O7;have a:=O (uE N0 R f 1 l w h g);unfold rI;obtain⟨o,b⟩:=J (nx 1 l);rw[<-b]at a⊢;clear b h
 go_enter func145,ntmps145
 go_wp2_with fail
 refine a.mono ?_;rintro e w' ⟨b,c⟩;have d:=O b;clear b a
 rcases o with _|r
 ·obtain rfl:e=.panicked b9:=c
  exact⟨T,d,T⟩
 obtain⟨⟨j,rfl,a⟩,b⟩:=c;obtain⟨k,m,rfl⟩:=a.form;have h:=O b;clear b a
 go_wp2_with fail
 go_ret;exact⟨d,T,h⟩
theorem Gm(N0 R:jf)(f:N0<=R)(l:ji Val)(w:jg)(h:bj N0 w R l)(g:l.length<=1000000):
 jr jl 203 #[jC (jb ⟨R,0,ja⟩)] w (J3 N0 R w (rT l)):=by
 have i:=Kn;have a:=O (uE N0 R f 2 l w h g);unfold rT;obtain⟨o,b⟩:=J (nx 2 l);rw[<-b]at a⊢;clear b h
 go_enter func203,ntmps203
 go_wp2_with fail
 refine a.mono ?_;rintro e w' ⟨b,c⟩;have d:=O b;clear b a
 rcases o with _|r
 ·obtain rfl:e=.panicked b9:=c
  exact⟨T,d,T⟩
 obtain⟨⟨j,rfl,a⟩,b⟩:=c;obtain⟨k,m,rfl⟩:=a.form;have h:=O b;clear b a
 go_wp2_with fail
 go_ret;exact⟨d,T,h⟩
theorem Iu{l:jh×ji Val}(h:rI r=jb l):l.2.length<=r.length:=by
 unfold rI at h
 rcases r with _|⟨x,r⟩
 ·cases h
 rw[nx]at h
 split at h
 ·injection h with h;rw[<-h];simp
 cases h
def ry:ju jj:=(qm 32 (jS .u8 0)).toArray
theorem N6(g n c:jf)(h:32<=n)(W:jg):(Instr.arrayAt 23 (A (jb ⟨g,0,ja⟩) n c)).run jl W=.ok (jC (jb ⟨g,0,ja⟩)) W:=by
 have a:(underlying 23).run jl W=.ok (.array 32 5) W:=run_underlying n0 W;simp[Instr.arrayAt,Sem.run_bind,a,Result.andThen,show ¬n<32 by omega]
theorem I5(h:aP w (A (jb ⟨b,0,ja⟩) M R) g):w.rangeAt b 0 (g.map v8):=by
 obtain⟨p,o,e,-,-,l⟩:=h;injection e with i q r
 intro j v f;have d:j<g.length:=by have:=(qa.1 f).1;simpa using this
 obtain⟨s,t,a,l⟩:=l Y;rw[<-i]at a;injection a with a
 injection a with k m
 subst k;subst m;rw[l j d,<-f,mb,jY d];simp[kw,d]
theorem CL(N0 R:jf)(i:N0<=R)(l:ji Val)(w:jg)(h:bj N0 w R l)(P:l.length<=1000000):
 jr jl 146 #[jC (jb ⟨R,0,ja⟩)] w (Ia N0 R w (rD l)):=by
 have a:=ai w (jd ry 23);have b:=jt w (jd ry 23);have c:=h.below i a;obtain⟨B,d⟩:=J w.heap.size;obtain⟨q,e⟩:=J (w.alloc (jd ry 23));have Q:=h.lt;rw[<-e]at a b c;rw[<-d]at b Q;have g:=O b;have t:=O a;have u:=O d;have f:=O e;have j:=O (Gm N0 R i l q c P);unfold rD;obtain⟨o,k⟩:=J (rT l);rw[<-k]at j⊢;clear k h a b c e d
 go_enter func146,ntmps146
 go_upto_region 1 with fail
 rw[show w.alloc (jd aT 23)=q from f.symm,<-u];clear f
 go_wp2_with fail
 refine j.mono ?_;rintro e b ⟨a,v⟩;have c:=(a.block B (js.1 g).1 Y).trans g;have d:aM R w.heap.size w b:=(aM.of_below t).trans a t.size;have m:=O c;have f:=O d;clear a j c d g
 rcases o with _|r
 ·obtain rfl:e=.panicked b9:=v
  exact⟨T,f,T⟩
 obtain⟨s,r⟩:=r;obtain⟨rfl,a⟩:=v;have x:=O a;clear a;obtain⟨n,c⟩:=J s.size
 by_cases d:n=32
 ·have g:jc (((jb (s,r)).bind λr=>if r.1.size=32 then jb (aX r.1,r.2)else ja)=jb (aX s,r)):=O (by rw[jT,jv (by rw[<-c];exact d)])
  have S:((s.size:jh)!=32)=jo:=by rw[<-c,d];rfl
  have kc:=uz s;have kb:=sI s b;have h:=r6 s b b.heap.size (jn _);have j:s.size=32:=by rw[<-c];exact d
  rw[j]at kb;have y:=(h.block B (js.1 m).1).trans m;have z:=x.below i h;have C:=f.trans (aM.of_below h) f.size;have ka:=N6 b.heap.size s.size (gu s b) Y;have D:=O y;have U:=O z;have V:=O C;have E:=O (I5 kb);have F:(aX s).length=32:=by rw[eW];exact j
  have p:=O F;obtain⟨a,H⟩:=J (aX s);rw[<-H]at E p g;have k:(jl.info? 23).map (·.size)=jb (a.map v8).length:=by rw[jw,p];kernel_rfl
  have K:(jl.info? 23).map (·.size)=jb (a.map v8).toArray.size:=by rw[jD];exact k
  have W:=O k;have M:=O K;have X:jc (ry.size=(a.map v8).toArray.size):=O (by rw[show(a.map v8).toArray.size=(a.map v8).length from jD ..,jw,p];rfl);clear c d kb h y z C F H k K m x f j
  go_wp2_with (first|(refine jJ T λ_ h=>wp_load_mid 23 _ T b.heap.size 0 T (a.map v8) _ E.out n0 T W (h _ _ ?_))|(refine jJ T λ_ h=>jE 23 _ _ T B (a.map v8).toArray T T 23 ry D M X (ee a) (h _ _ ?_)))
  have h:=j6 (eM s b) B _ (a.map v8).toArray _ _ D.out;refine jW (lo T _ _ B 23 (a.map v8).toArray (0,0) _ T h n0 T M) T ⟨?_,?_⟩
  ·exact V.trans (Es R B (eM s b) _) (by rw[u];exact jn _)
  rw[g];exact⟨T,U.keep (jy _ _ _ _ Y) (λk hk=>jy _ _ _ _ Y)⟩
 have g:jc (((jb (s,r)).bind λr=>if r.1.size=32 then jb (aX r.1,r.2)else ja)=ja):=O (by rw[jT,jG (by rw[<-c];exact d)]);have S:((s.size:jh)!=32)=jp:=by rw[<-c];simp;omega
 clear c d
 go_wp2_with fail
 exact⟨T,f,by rw[g];rfl⟩
theorem ay.of_bytes{g n c:jf}{l:af}(h:aP w (A (jb ⟨g,0,ja⟩) n c) l)(f:n=l.length)(i:D g):ay D w (A (jb ⟨g,0,ja⟩) n c) 1 l.length (l.map v8):=by
 obtain⟨p,y,e,k,z,m⟩:=h;injection e with q B r
 refine⟨by simp,jb ⟨g,0,ja⟩,c,by rw[f],by rw[r];exact k,(λh=>by cases h),λs=>?_⟩;obtain⟨C,o,a,t⟩:=m s;rw[<-q]at a;injection a with a
 injection a with u x
 refine⟨g,0,T,i,λj v d=>?_⟩;have b:j<l.length:=by have:=(qa.1 d).1;simpa using this
 rw[u,x,t j b,<-d,mb,jY b];simp[kw,b]
theorem ay.keepAt{g n c sz:jf}(h:ay D w (A (jb ⟨g,0,ja⟩) n c) sz m xs)(hk:w'.heap[g]?=w.heap[g]?):ay D w' (A (jb ⟨g,0,ja⟩) n c) sz m xs:=by
 obtain⟨i,p,k,e,l,q,r⟩:=h;refine⟨i,p,k,e,l,q,λs=>?_⟩;injection e with t B C
 obtain⟨b,o,f,u,v⟩:=r s;have d:=t.trans f;injection d with d
 injection d with x E
 refine⟨b,o,f,u,λj y z=>(bX (a:=⟨b,o+j,ja⟩) ?_).trans (v j y z)⟩;show w'.heap[b]?=w.heap[b]?;rw[<-x];exact hk
theorem zg:(jl.info? 52).map (·.size)=jb 2:=by kernel_rfl
theorem ER(N0 R:jf)(j:N0<=R)(l:ji Val)(w:jg)(h:bj N0 w R l)(m:l.length<=1000000):
 jr jl 149 #[jC (jb ⟨R,0,ja⟩)] w (Hi N0 R w (rW l)):=by
 have c:=ai w (jd #[I N 0,A ja 0 0] 52);have e:=jt w (jd #[I N 0,A ja 0 0] 52);have g:=h.below j c;obtain⟨B,k⟩:=J w.heap.size;obtain⟨W,p⟩:=J (w.alloc (jd #[I N 0,A ja 0 0] 52));have X:=h.lt;rw[<-p]at c e g;rw[<-k]at e X;have q:=O e;have x:=O c;have t:=O k;have u:=O p;have d:=O (fY N0 R j l W g m);have s:=O (fun(r:jh×ji Val) (h:rI l=jb r)=>Iu h);obtain⟨ov,a⟩:=J (rW l);rw[<-a];unfold rW at a;obtain⟨o,f⟩:=J (rI l);rw[<-f]at d s a;have aa:jc (o=ja->ov=ja):=O (λh=>by rw[a,h];rfl);have v:jc (∀n r,o=jb (n,r)->ov=(rT r).map λb=>((n,aX b.1),b.2)):=O (λn r h=>by rw[a,h];rfl);clear f h c e g p k a
 go_enter func149,ntmps149
 go_upto_region 1 with fail
 rw[<-u,<-t];clear u
 go_wp2_with fail
 refine d.mono ?_;rintro e y ⟨c,b⟩;have a:=(c.block B (js.1 q).1 Y).trans q;have g:aM R w.heap.size w y:=(aM.of_below x).trans c x.size;have p:=O a;have k:=O g;clear c d a g q
 rcases o with _|r
 ·obtain rfl:e=.panicked b9:=b
  exact⟨T,k,by rw[aa T]⟩
 obtain⟨n,r⟩:=r;obtain⟨rfl,g⟩:=b;have a:r.length<=1000000:=jA (s _ T) m;have d:=O (Gm N0 R j r y g a);have u:=O (v n r T);dsimp only;obtain⟨o,f⟩:=J (rT r);rw[<-f]at d u;clear v;clear g f s m a
 go_wp2_with fail
 refine d.mono ?_;rintro e a ⟨c,b⟩;have q:=(c.block B (js.1 p).1 Y).trans p;have s:aM R w.heap.size w a:=k.trans c k.size;have f:=O q;have m:=O s;clear c d q s p k
 rcases o with _|q
 ·obtain rfl:e=.panicked b9:=b
  exact⟨T,m,by rw[u];rfl⟩
 obtain⟨s,q⟩:=q;obtain⟨rfl,g⟩:=b;have kc:=uz s;have kb:=sI s a;have d:=r6 s a a.heap.size (jn _);have k:(eM s a).heap.size=a.heap.size+1:=by unfold eM;exact Lib.bytesWorld_size a 5 s
 have z:=g.below j d;have C:=(d.block B (js.1 f).1).trans f;have E:=m.trans (aM.of_below d) m.size;have F:B<a.heap.size:=(js.1 f).1;obtain⟨⟨v0,c0⟩,f0,H,K⟩:=cE (i:=0) (I N n) C ax;have M:((eM s a).setCell ⟨B,0,ja⟩ (I N n)).heap[B]?=jb (jd #[I N n,A ja 0 0] 52 (0,0)):=H;obtain⟨⟨v1,c1⟩,f1,P,Q⟩:=cE (i:=1) (A (jb ⟨a,0,ja⟩) s.size (gu s a)) M ax;have S:(((eM s a).setCell ⟨B,0,ja⟩ (I N n)).setCell ⟨B,1,ja⟩ (A (jb ⟨a,0,ja⟩) s.size (gu s a))).heap[B]?=jb (jd #[I N n,A (jb ⟨a,0,ja⟩) s.size (gu s a)] 52 (0,0)):=P;have c:=O S;have Tj:=O z;have RO:=O E;have YU:=O kb;have U:=O k;have p:=O K;have v:=O Q;have V:=O F;clear g kb d k z C E H M P S K Q F f m
 go_upto_region 2 with fail
 have d:∀k,k≠B->(((eM s a).setCell ⟨B,0,ja⟩ (I N n)).setCell ⟨B,1,ja⟩ (A (jb ⟨a,0,ja⟩) s.size (gu s a))).heap[k]?=(eM s a).heap[k]?:=λk hk=>(v.block k hk).trans (p.block k hk)
 have f:(((eM s a).setCell ⟨B,0,ja⟩ (I N n)).setCell ⟨B,1,ja⟩ (A (jb ⟨a,0,ja⟩) s.size (gu s a))).heap.size=a.heap.size+1:=by rw[v.size,p.size,U]
 have g:aM R B (eM s a) (((eM s a).setCell ⟨B,0,ja⟩ (I N n)).setCell ⟨B,1,ja⟩ (A (jb ⟨a,0,ja⟩) s.size (gu s a))):=⟨T,T,T,by rw[f,U];exact jn _,λk hk _=>d k Y⟩;obtain⟨C,z⟩:=J (((eM s a).setCell ⟨B,0,ja⟩ (I N n)).setCell ⟨B,1,ja⟩ (A (jb ⟨a,0,ja⟩) s.size (gu s a)));rw[<-z]at c d f g⊢;have m:=O d;have E:=O f;have F:=O g;clear d f g z c0 f0 c1 f1 p v kc
 go_wp2_with (first|(refine jQ T 52 _ T B T 52 #[I N n,A (jb ⟨a,0,ja⟩) s.size (gu s a)] (0,0) _ c.out underlying52 T zg ?_)|(refine jJ T λ_ d=>jE 52 _ _ T B #[I N n,A (jb ⟨a,0,ja⟩) s.size (gu s a)] T T 52 _ c.out zg T (by simp[jH]) (d _ _ ?_)))
 rw[dR c];refine jW (lo T _ _ B 52 #[I N n,A (jb ⟨a,0,ja⟩) s.size (gu s a)] (0,0) _ T c underlying52 T zg) T ⟨?_,?_⟩
 ·exact RO.trans F.out (by rw[t];exact jn _)
 rw[u];refine⟨⟨_,T,?_⟩,Tj.keep (m R Y) (λk hk=>m k Y)⟩;have h:=ay.of_bytes (D:=λg=>w.heap.size<=g/\g<C.heap.size) YU (eW s).symm ⟨by have:=V.out;have:=t.out;omega,by rw[E];omega⟩;have d:=ay.keepAt h (hk:=m a.heap.size (aA V));exact d
theorem yI(N0 R:jf)(m:N0<=R)(l:ji Val)(w:jg)(h:bj N0 w R l)(y:l.length<=1000000):
 jr jl 147 #[jC (jb ⟨R,0,ja⟩)] w (Ox N0 R w (rL l)):=by
 have D:∀(fn:Fn) (first p:ju jj) (w:jg),(Instr.makeFunc fn first p).run jl w=.ok (.func fn first p) w:=λ_ _ _ _=>rfl
 have E:=h.lt;have F:=Eg;have a:=O (uE N0 R m 3 l w h y);unfold rL;obtain⟨o,b⟩:=J (nx 3 l);rw[<-b]at a⊢;clear b h
 go_enter func147,ntmps147
 go_wp2_with fail
 refine a.mono ?_;rintro e d ⟨b,q⟩;have c:=O b;clear b a
 rcases o with _|r
 ·obtain rfl:e=.panicked b9:=q
  exact⟨T,c,T⟩
 obtain⟨x,r⟩:=r;obtain⟨⟨H,rfl,h⟩,i⟩:=q;obtain⟨a,b,rfl⟩:=h.form;have f:=ai d (jd #[A a x.l.length b] 107);have t:=jt d (jd #[A a x.l.length b] 107);have u:=i.below m f;have z:=i.lt;have v:=c.trans (aM.of_below f) c.size;have j:aw (·<N0) (d.alloc (jd #[A a x.l.length b] 107)) x (A a x.l.length b):=aw.keep (λg (k:g<N0)=>f.block g Y) _ _ h;have g:aw (·<N0) (d.alloc (jd #[A a x.l.length b] 107)) (vL x.l) (A a x.l.length b):=by
  obtain⟨k,n,s,B⟩:=x;unfold vL;rw[aw]at j⊢;exact j
 have k:=O u;have n:=O v;have s:=O g;have B:=O t;have C:=O c.size;clear h i f t u z v j g c
 go_wp2_with fail
 go_ret;exact⟨n,⟨_,_,T,C,B,s⟩,k⟩
section
variable{f:FuncId}{d:jV->Act->jg->Prop}{w:jg}
variable {P:lm}
def WpF(P:lm)(fn:FuncId)(c:j4)(f:jV->Act->jg->Prop)(a:Act)(w:jg):Prop:=
 ∀(b:Frame) (k:ji Item) (cs:ji Frame),b.roundOf=ja->b.fn=fn->∃e d w',f e d w'/\ArrivesIn (Machine.fenced P Fence.wide) P (lone (b.atR a (.code c::k)) cs w) b k cs e d w'
theorem iN{c:j4}{b:Act}(h:c.wp P d b w):WpF P f c d b w:=
 λa k cs e _=>(wpIn_wide (n:=0)).2 h a k cs e trivial (room_wide _)
theorem G9{x y:j4}{b:Act}(h:WpF P f x (Exit.then (WpF P f y d) d) b w):WpF P f (.seq x y) d b w:=by
 intro a k cs m n;have c:(lone (a.atR b (.code (.seq x y)::k)) cs w).fenced P Fence.wide:=j7 _ _;obtain⟨e,g,i,j,fn⟩:=h a (.code y::k) cs m n
 cases e with
 |normal=>
  obtain⟨l,o,p,q,r⟩:=j a k cs m n;exact⟨l,o,p,q,.of_steps (.head c stepR_seq fn) r⟩
 |exit o=>exact⟨_,g,i,j,.of_steps (.one c stepR_seq) (.pass (x:=.code y) T (λ_ _=>.inl ax) fn)⟩
 |goto l=>exact⟨_,g,i,j,.of_steps (.one c stepR_seq) (.pass (x:=.code y) T (λ_ _=>.inl ax) fn)⟩
 |ret=>exact⟨_,g,i,j,.of_steps (.one c stepR_seq) (.pass (x:=.code y) T (λ_ _=>.inl ax) fn)⟩
 |panic p=>exact⟨_,g,i,j,.of_steps (.one c stepR_seq) (.pass (x:=.code y) T (λ_ _=>.inl ax) fn)⟩
 |outgrown=>exact⟨_,g,i,j,.of_steps (.one c stepR_seq) (.pass (x:=.code y) T (λ_ _=>.inl ax) fn)⟩
theorem GM{a:Func}{c:j4}{e:ju jj}{w:jg}{R:j3->jg->Prop}(q:P.funcs[f]?=jb a)(v:a.body=jb c)
 (h:WpF P f c (bodyPostM Fence.wide 0 P a R) {tmps:=e++qb (a.ntmps-e.size) undef,defers:=[]} w):jr P f e w R:=by
 refine(qt (n:=0)).1 ⟨trivial,λcs r=>?_⟩
 let b:Frame:={(default:Frame)with fn:=f,kind:=.normal,roundOf:=ja}
 have x:Frame.enter P f e .normal=b.atR {tmps:=e++qb (a.ntmps-e.size) undef,defers:=[]} [.code c]:=by
  simp[Frame.enter,Frame.atR,q,v,b]
 obtain⟨args,fn,w',d,g⟩:=h b [] cs T T;rw[<-x]at g
 cases args with
 |normal=>
  obtain⟨i,j,k,l,m,o,p⟩:=leaves_stepsInM fn.defers .returning w' {b.atR fn []with mode:=.returning} cs T T T q T trivial r d;exact⟨i,j,k,l,ComesIn.of_steps (StepsIn.trans g (.one (j7 _ _) (stepR_end T))) m,o,p⟩
 |ret=>
  obtain⟨s,t⟩:=g.1 T;obtain⟨i,j,k,l,m,o,p⟩:=leaves_stepsInM fn.defers .returning w' {b.atR fn s with mode:=.returning} cs T T T q T trivial r d;exact⟨i,j,k,l,ComesIn.of_steps t m,o,p⟩
 |panic u=>
  obtain⟨s,t⟩:=g;obtain⟨i,j,k,l,m,o,p⟩:=leaves_stepsInM fn.defers (.panicking u) w' {b.atR fn s with mode:=.panicking u} cs T T T q T trivial r d;exact⟨i,j,k,l,ComesIn.of_steps t m,o,p⟩
 |exit i=>exact d.elim
 |goto l=>exact d.elim
 |outgrown=>exact⟨.outgrown,w',b,d,g.resolve_left (by simp[b]),T,trivial⟩
def JW(P:lm)(l:jf)(R:j3->jg->Prop):jV->Act->jg->Prop
 | .panic b,a,w=>a.defers=[]/\R (.panicked b) w
 |e,a,w=>roundPost P l R e a w
theorem P4{i:jf}{g:jf}{a:Func}{tmps:ju jj}{c y:j4}{w:jg}{R:j3->jg->Prop}(C:P.funcs[f]?=jb a)
 (h:c.wpIn (Fence.wide.inRound g) i P (Exit.then (λp body=>∃x,(Instr.beginRound g).run P body=.ok () x/\y.wpIn (Fence.wide.inRound g) i P (JW P g R) p x) (λ_ _ _=>False))
  {tmps:=tmps,defers:=[]} w):
 RoundIn Fence.wide i P g f tmps c y w R:=by
 refine⟨trivial,λassign cs D=>?_⟩
 let b:Frame:={(default:Frame)with fn:=f,kind:=.normal,roundOf:=jb g}
 have E:Frame.round g f tmps c y .normal=b.atR {tmps:=tmps,defers:=[]} [.code c,.beginRound,.code y]:=by
  simp[Frame.round,Frame.atR,b]
 have d:(Fence.wide.inRound g).room ((assign::cs).length+1+i):=D;obtain⟨e,p,body,k,m⟩:=h b [.beginRound,.code y] (assign::cs) T trivial d;rw[<-E]at m
 cases e with
 |normal=>
  obtain⟨x,F,H⟩:=k;have q:StepsIn (Machine.fenced P (Fence.wide.inRound g)) P (lone (b.atR p [.beginRound,.code y]) (assign::cs) body) (lone (b.atR p [.code y]) (assign::cs) x):=
   .one (fenced_calm (fr:=b.atR p [.beginRound,.code y]) trivial d rfl) (stepR_beginRound rfl F)
  obtain⟨K,r,z,o,s⟩:=H b [] (assign::cs) T trivial d
  cases K with
  |normal=>
   obtain⟨v,l,n,fd⟩:=o;exact⟨jq v,l,fd,(StepsIn.trans m q).trans (StepsIn.trans s (.one (fenced_calm (fr:=b.atR r []) trivial d T) (stepR_round_end T T n)))⟩
  |ret=>
   obtain⟨v,l,n,fd⟩:=o;obtain⟨u,j⟩:=s.2 T;exact⟨jq v,l,fd,(StepsIn.trans m q).trans (StepsIn.trans j (.one (fenced_calm (fr:=b.atR r (.code .ret::u)) trivial d T) (stepR_round_ret T T n)))⟩
  |exit B=>
   obtain⟨v,l,n,fd⟩:=o;obtain⟨u,hk,j⟩:=s.2 T T;exact⟨jq v,l,fd,(StepsIn.trans m q).trans (StepsIn.trans j (.one (fenced_calm (fr:=b.atR r (.code (.exit B)::u)) trivial d T) (stepR_round_exit T T hk n)))⟩
  |goto t=>
   obtain⟨v,l,n,fd⟩:=o;obtain⟨u,hk,j⟩:=s.2 T T;exact⟨jq v,l,fd,(StepsIn.trans m q).trans (StepsIn.trans j (.one (fenced_calm (fr:=b.atR r (.code (.goto t)::u)) trivial d T) (stepR_round_goto T T hk n)))⟩
  |panic l=>
   obtain⟨n,fd⟩:=o;obtain⟨u,j⟩:=s;have v:({b.atR r u with mode:=.panicking l}:Frame).leaving P z (.panicked l):=⟨T,n,a,C⟩;exact⟨.panicked l,z,fd,(StepsIn.trans m q).trans (StepsIn.trans j (.one (j7 _ _) (step_leave_panicked v)))⟩
  |outgrown=>exact o.elim
 |exit B=>exact k.elim
 |goto g=>exact k.elim
 |ret=>exact k.elim
 |panic l=>exact k.elim
 |outgrown=>exact k.elim
theorem Jl{f:FuncId}{g:nn}{j:ju Tmp}{c y:j4}{d:jV->Act->jg->Prop}{a:Act}{w:jg}
 (h:∃(l:jf) (i:ji Deferred) (m:jg) (x:Deferred) (o:jg) (u:FuncId) (args:ju jj) (p:jg),
  (Instr.enterLoop f a.tmps j c y ja).run P w=.ok (l,i) m/\
  (resolve a.eval (rangeCall g l) 0).run P m=.ok x o/\
  (invoke x.target x.args).run P o=.ok (.enter u args) p/\
  jr P u args p (rangePost Fence.wide 0 P l d {a with defers:=i++a.defers})):
 WpF P f (.rangeFunc g j c y) d a w:=by
 intro b k cs body F;obtain⟨l,i,m,x,o,u,args,p,he,H,K,M⟩:=h;have Q:(Instr.enterLoop b.fn a.tmps j c y b.roundOf).run P w=.ok (l,i) m:=by rw[body,F];exact he
 have q:=stepR_rangeFunc (P:=P) (b:=b) (a:=a) (k:=k) (cs:=cs) (w:=w) Q H K;obtain⟨e,R,fr,r,s,aa,z⟩:=((qt (n:=0)).2 M).2 (b.atR {a with defers:=i++a.defers} (.inRangeFunc l::k)::cs) (room_wide _)
 cases e with
 |outgrown=>
  obtain⟨assign,v,t⟩:=r;exact⟨.outgrown,assign,v,t,.inr (Outgrown.of_steps (.one q) s)⟩
 |returned v=>
  obtain⟨B,C,S,D⟩:=r;have E:StepsIn (Machine.fenced P Fence.wide) P (lone (b.atR a (.code (.rangeFunc g j c y)::k)) cs w) (lone (b.atR {a with defers:=i++a.defers} ((B.map Item.code).toList++k)) cs C):=by
   refine .head (j7 _ _) q (StepsIn.trans s (.head (j7 _ _) ?_ (.one (j7 _ _) (stepR_endRangeFunc S))));rw[<-finish_atR_inRangeFunc l v];exact step_leave_returned z
  rcases B with _|assign
  ·exact⟨.normal,_,C,D,E⟩
  obtain⟨U,V,W,t,X⟩:=D b k cs body trivial (room_wide _);exact⟨U,V,W,t,.of_steps E X⟩
 |panicked assign=>
  refine⟨.panic assign,_,R,r,.inRangeFunc l::k,.head (j7 _ _) q (StepsIn.trans s (.one (j7 _ _) ?_))⟩;rw[<-Frame.raise_atR];exact step_leave_panicked z
theorem wQ{i:jf}{c:j4}{b:Act}(h:WpF P f c (Exit.inBlock i d) b w):WpF P f (.block i c) d b w:=by
 intro a k cs v x;have u:(lone (a.atR b (.code (.block i c)::k)) cs w).fenced P Fence.wide:=j7 _ _;obtain⟨e,j,m,fn,g⟩:=h a (.inBlock i::k) cs v x
 cases e with
 |normal=>exact⟨.normal,j,m,fn,.head u km (StepsIn.trans g (.one (j7 _ _) stepR_inBlock))⟩
 |exit n=>
  by_cases l:n=i
  ·simp only[Exit.inBlock,l,if_true]at fn
   exact⟨.normal,j,m,fn,.head u km (g.1 k (by simp[exitTo,l]))⟩
  simp only[Exit.inBlock,l,if_false]at fn;have this:(i==n)=jo:=by simp;exact λh=>l h.symm
  have o:exitTo n (.inBlock i::k)=exitTo n k:=by simp[exitTo,this]
  exact⟨.exit n,j,m,fn,λp hk=>.head u km (g.1 p (by rw[o];exact hk)),
   λq hk=>let⟨r,s,t⟩:=g.2 q (by rw[o];exact hk);⟨r,s,.head u km t⟩⟩
 |goto l=>
  have o:gotoIn l (.inBlock i::k)=gotoIn l k:=by simp[gotoIn]
  exact⟨_,j,m,fn,λp hk=>.head u km (g.1 p (by rw[o];exact hk)),
   λq hk=>let⟨r,s,t⟩:=g.2 q (by rw[o];exact hk);⟨r,s,.head u km t⟩⟩
 |ret=>exact⟨_,j,m,fn,.of_steps (.one u km) g⟩
 |panic o=>exact⟨_,j,m,fn,.of_steps (.one u km) g⟩
 |outgrown=>exact⟨_,j,m,fn,.of_steps (.one u km) g⟩
structure dG(B0:jf)(a B:jg):Prop where
 os:B.os=a.os
 tape:B.tape=a.tape
 output:B.output=a.output
 size:a.heap.size<=B.heap.size
 block:∀k,k<a.heap.size->(B.heap[k]?=a.heap[k]?\/(B0<=k/\∃o:Obj,a.heap[k]?=jb o/\o.isCells=jo))
theorem dG.alloc(B0:jf)(a:jg)(o:Obj):dG B0 a (a.alloc o):=⟨T,T,T,by simp,λk hk=>.inl (qc _ _ _ hk)⟩
theorem dG.ofBelow{B0:jf}{a B:jg}(h:jm a a B):dG B0 a B:=⟨h.os,h.tape,h.output,h.size,λk hk=>.inl (h.block k hk)⟩
theorem dG.putObj{i:jf}{g:jf}{o:Obj}(b:Obj)(c:w.heap[g]?=jb o)(d:o.isCells=jo)(f:i<=g):dG i w (w.putObj g b):=by
 refine⟨T,T,T,by simp[qn],λk hk=>?_⟩
 by_cases e:k=g
 ·subst e;exact .inr ⟨f,o,c,d⟩
 exact .inl (m0 e)
theorem dG.cells{B0:jf}{a B:jg}(h:dG B0 a B){k:jf}{c:ju jj}{t:jM}{f:jf×jf}(hk:a.heap[k]?=jb (jd c t f)):B.heap[k]?=jb (jd c t f):=by
 rcases h.block k (js.1 hk).1 with e|⟨_,o,b,d⟩
 ·exact e.trans hk
 rw[hk]at b;cases b;cases d
theorem dG.low{i g:jf}{B:jg}(h:dG i w B)(hk:g<w.heap.size)(b:g<i):B.heap[g]?=w.heap[g]?:=by
 rcases h.block g hk with e|⟨c,_⟩
 ·exact e
 omega
def mX{β:Type}(B0:jf)(a:β->jg->Prop):Prop:=∀s b B,a s b->dG B0 b B->a s B
def AN{α:Type}(P:lm)(g:jf)(lb:ju jj)(encs:α->ju jj)(n₀:jf)(S:ji α->Prop)(h:ji α->ji lr->Prop)(V:ji α->jg->Prop)(w:jg):Prop:=
 ∀(l:jf) (a:ji α->jg->Prop) (f:ji lr->jg->Prop) (W:jg),jm w w W->mX W.heap.size a->
  (∀b x d,a b d->V (b++[x]) d->YieldAt Fence.wide 0 P l (encs x) d λe B=>
   (e=jq (.bool jp)/\a (b++[x]) B/\jm n₀ d B)\/(∃c,e=.panicked c/\f c B))->
  a [] W->
  jr P g (#[.func (.yield l) #[] #[]]++lb) W λe B=>((∃v,e=jq v)/\∃xs,S xs/\a xs B)\/∃c,e=.panicked c/\(f c B\/∃b,h b c/\a b B)
def MO{α:Type}(B0 n₀:jf)(c:ji α->jg->Prop)(d:ji lr->jg->Prop)(xs:ji α)(b:jg):jV->Act->jg->Prop
 | .normal,_,B=>(oi B0 b B/\jm n₀ b B)/\c xs B
 | .panic e,a,B=>a.defers=[]/\oi B0 b B/\d e B
 |_,_,_=>False
theorem yb{α:Type}{u:FuncId}{fd:Func}(WG:P.funcs[u]?=jb fd){g:nn}{y:ju Tmp}{assign body:j4}{z:jV->Act->jg->Prop}{a:Act}{w:jg}
 {gf:jf} {lb:ju jj} (hg:a.eval g=.func (.func gf) #[] lb) (eg:∀args w,(callFunc gf args).run P w=.ok (.enter gf args) w)
 {encs:α->ju jj} {n₀:jf} {S:ji α->Prop} {M:ji α->ji lr->Prop} {V:ji α->jg->Prop} (Vb:AN P gf lb encs n₀ S M V w)
 (V8:n₀<=w.heap.size) (Zq:∀x,(encs x).size=y.size) (hV:mX w.heap.size V)
 (f:ji α->jg->Prop) (C:ji lr->jg->Prop) (m:mX w.heap.size f) (h0:f [] w)
 (Q:ju jj->α->ju jj)
 (aa:∀(l:jf) (x:α) (b:jg) (K:Act->jg->Prop),K {tmps:=Q a.tmps x,defers:=[]} b->
  assign.wpIn (Fence.wide.inRound l) 0 P (Exit.then K (λ_ _ _=>False)) {tmps:=(y.zip (encs x)).foldl (λt (p,v)=>t.setIfInBounds p v) a.tmps,defers:=[]} b)
 (ad:∀(l:jf) (i:ji α) (x:α) (b:jg),f i b->V (i++[x]) b->w.heap.size<=b.heap.size->(∃r,b.heap[l]?=jb (.loop r))->
  body.wpIn (Fence.wide.inRound l) 0 P (MO w.heap.size n₀ f C (i++[x]) b) {tmps:=Q a.tmps x,defers:=[]} b)
 (al:∀(D:jf) (xs:ji α) (W:jg),w.heap.size<=D->S xs->f xs W->W.heap[D]?=jb (.deferred (jb []))->z .normal {a with defers:={target:=.collected D,args:=#[]}::a.defers} W)
 (K:∀(D:jf) (j:ji lr) (W:jg),w.heap.size<=D->(C j W\/∃i,M i j/\f i W)->W.heap[D]?=jb (.deferred (jb []))->z (.panic j) {a with defers:={target:=.collected D,args:=#[]}::a.defers} W):
 WpF P u (.rangeFunc g y assign body) z a w:=by
 refine Jl ?_;obtain⟨c,l⟩:∃c:LoopState->jB j4->Loop,c=λst pe=>{state:=st,pending:=pe,fn:=u,tmps:=a.tmps,params:=y,assign,body,defers:=w.heap.size}:=⟨_,T⟩
 obtain⟨d,n⟩:∃d,(w.alloc (.deferred (jb []))).alloc (.loop (c .ready ja))=d:=⟨_,T⟩;have bd:d.heap.size=w.heap.size+2:=by rw[<-n];simp
 have au:d.heap[w.heap.size+1]?=jb (.loop (c .ready ja)):=by
  rw[<-n];have:=jt (w.alloc (.deferred (jb []))) (.loop (c .ready ja));rwa [jF]at this
 have a1:d.heap[w.heap.size]?=jb (.deferred (jb [])):=by
  rw[<-n];exact(qc _ _ _ ax).trans (jt w _)
 have a2:f [] d:=by rw[<-n];exact m _ _ _ (m _ _ _ h0 (dG.alloc _ _ _)) (dG.alloc _ _ _)
 have a3:jm w w d:=by
  rw[<-n];exact(((j9 _ w).alloc (jn _) _).alloc ax _)
 let D (W:jg):Prop:=W.heap[w.heap.size+1]?=jb (.loop (c .ready ja))/\W.heap[w.heap.size]?=jb (.deferred (jb []))
 have a4:mX d.heap.size (fun(_:ji α) W=>D W):=by
  rintro s b B ⟨h,k⟩ e;have E:=(js.1 h).1;exact⟨(e.low E Y).trans h,(e.low Y Y).trans k⟩
 have up:∀{β:Type} {f:β->jg->Prop},mX w.heap.size f->mX d.heap.size f:=by
  intro β f h s b B o e;refine h s b B o ⟨e.os,e.tape,e.output,e.size,λk hk=>?_⟩
  rcases e.block k hk with h|⟨h,p⟩
  ·exact .inl h
  exact .inr ⟨by omega,p⟩
 refine⟨w.heap.size+1,[{target:=.collected w.heap.size,args:=#[]}],d,{target:=.fn (.func gf) lb,args:=#[.func (.yield (w.heap.size+1)) #[] #[]]},d,gf,
  #[.func (.yield (w.heap.size+1)) #[] #[]]++lb,d,?_,?_,?_,?_⟩
 ·rw[<-n,l];exact run_enterLoop_outer _ _ _ _ _
 ·simp only[resolve,hg]
  simp[go_sem]
 ·simp[invoke,go_sem,eg]
 refine(Vb (w.heap.size+1) (λi W=>f i W/\D W) (λj W=>C j W/\W.heap[w.heap.size]?=jb (.deferred (jb []))) d a3
  (λs b B h e=>⟨up m s b B h.1 e,a4 s b B h.2 e⟩) ?_ ⟨a2,au,a1⟩).mono ?_
 ·
  rintro i x W ⟨k,h,hk⟩ a5;have E:w.heap.size+1<W.heap.size:=(js.1 h).1;have R:=run_yield (P:=P) (args:=encs x) h (by rw[l];exact Zq x);rw[l]at R;refine⟨u,_,assign,body,R,P4 WG (aa _ x W _ ?_)⟩;refine⟨_,run_beginRound h (by rw[l]),?_⟩;have s:(W.putObj (w.heap.size+1) (.loop {c .ready ja with state:=.busy})).heap[w.heap.size+1]?=jb (.loop {c .ready ja with state:=.busy}):=qE E;have B:(W.putObj (w.heap.size+1) (.loop {c .ready ja with state:=.busy})).heap[w.heap.size]?=jb (.deferred (jb [])):=(m0 Y).trans hk;have U:dG w.heap.size W (W.putObj (w.heap.size+1) (.loop {c .ready ja with state:=.busy})):=dG.putObj _ h T Y;refine wpIn_mono (ad _ i x _ (m _ _ _ k U) (hV _ _ _ a5 U) (by simp[qn];omega) ⟨_,s⟩) ?_;obtain⟨q,X⟩:∃q,W.putObj (w.heap.size+1) (.loop {c .ready ja with state:=.busy})=q:=⟨_,T⟩;have ba:jm n₀ W q:=by rw[<-X];exact iO Y
  rw[X]at s B⊢;have bb:∀(b:jg),(oi w.heap.size q b/\jm n₀ q b)->
   (Instr.endRound (w.heap.size+1) ja).run P b=.ok (.bool jp) (b.putObj (w.heap.size+1) (.loop (c .ready ja)))/\
   dG w.heap.size b (b.putObj (w.heap.size+1) (.loop (c .ready ja)))/\
   D (b.putObj (w.heap.size+1) (.loop (c .ready ja)))/\
   jm n₀ W (b.putObj (w.heap.size+1) (.loop (c .ready ja))):=by
   rintro b ⟨o,F⟩;have e:=o.same _ _ Y s T;have r:=run_endRound (P:=P) ja e;rw[l]at r⊢;refine⟨r,dG.putObj _ e T Y,⟨?_,(m0 Y).trans (o.same _ _ (jn _) B T)⟩,(ba.trans F).trans (iO Y)⟩;rw[l];exact qE (js.1 e).1
  rintro e bf b p
  cases e with
  |normal=>
   obtain⟨o,H⟩:=p;obtain⟨r,Vo,F,bc⟩:=bb b o;exact⟨_,_,r,.inl ⟨T,⟨m _ _ _ H Vo,F⟩,bc⟩⟩
  |ret=>exact p.elim
  |exit F=>exact p.elim
  |goto t=>exact p.elim
  |panic j=>
   obtain⟨r,o,H⟩:=p;exact⟨r,.inr ⟨j,T,H,o.same _ _ (jn _) B T⟩⟩
  |outgrown=>exact p.elim
 
 rintro e p (⟨⟨v,rfl⟩,xs,b,k,h,hk⟩|⟨j,rfl,(⟨k,hk⟩|⟨i,o,k,h,hk⟩)⟩)
 ·exact⟨ja,_,by have:=run_endLoop (P:=P) h (by rw[l];simp);rw[l]at this;exact this,al _ xs _ (jn _) b (m _ _ _ k (dG.putObj _ h T Y)) ((m0 Y).trans hk)⟩
 ·exact K _ j _ (jn _) (.inl k) hk
 exact K _ j _ (jn _) (.inr ⟨i,o,k⟩) hk
def wR(Ds:ji jf):ji Deferred:=Ds.map λD=>{target:=.collected D,args:=#[]}
structure Oz(Ds:ji jf)(w w':jg):Prop where
 os:w'.os=w.os
 tape:w'.tape=w.tape
 output:w'.output=w.output
 size:w'.heap.size=w.heap.size
 block:∀k,k∉Ds->w'.heap[k]?=w.heap[k]?
theorem wm{a:Func}{e:ju jj}{R:j3->jg->Prop}{c:FrameMode}(d:c≠.run):∀(Ds:ji jf) (W:jg),Ds.Nodup->(∀D∈Ds,W.heap[D]?=jb (.deferred (jb [])))->
 (∀b,Oz Ds W b->LeavesIn Fence.wide 0 P a e R [] c b)->LeavesInM Fence.wide 0 P a e R (wR Ds) c W
 |[],W,_,_,h=>h W ⟨rfl,rfl,rfl,rfl,λ_ _=>rfl⟩
 |D::Ds,W,f,g,h=>by
  have j:=g D (List.mem_cons_self ..);refine⟨d,.inl ⟨D,_,T,run_takeDeferred j,wm d Ds _ (qF.1 f).2 (λE i=>?_) (λb fn=>h b ?_)⟩⟩
  ·have b:E≠D:=λtmps=>(qF.1 f).1 (tmps▸i)
   exact(m0 b).trans (g E (List.mem_cons_of_mem _ i))
  refine⟨fn.os,fn.tape,fn.output,fn.size.trans (by simp[qn]),λk hk=>?_⟩;rw[List.mem_cons,not_or]at hk;exact(fn.block k hk.2).trans (m0 hk.1)
end
section
attribute [local go_sem] Oper.semAt_some
def VIt(N0 n₀:jf)(l:ji Val)(xs:ji (jf×Val))(W:jg):Prop:=
 N0<=W.heap.size/\(∃r,l=xs.map (·.2)++r)/\∀a x,xs=a++[x]->x.2.k=3/\n₀<=x.1/\bj N0 W x.1 x.2.l
theorem yW(h:M<=b)(l:ji Val):mX b (VIt M R l):=by
 rintro xs n B ⟨g,i,j⟩ c;refine⟨jA g c.size,i,λm x e=>?_⟩;obtain⟨a,B0,d⟩:=j m x e;refine⟨a,B0,d.keep ?_ (λk f=>c.low Y Y)⟩;obtain⟨p,k,o,f,-⟩:=d;exact(c.cells f).trans f.symm
theorem aC.atI:∀{l:ji Val} {a:ji jj} {i:jf} {x:Val},aC D w l a->l[i]?=jb x->∃b,a[i]?=jb b/\aw D w x b
 |[],a,i,x,h,c=>by simp at c
 |y::l,a,i,x,h,c=>by
  rw[aC]at h;obtain⟨b,k,rfl,d,f⟩:=h
  rcases i with _|i
  ·have e:y=x:=ah c
   subst e;exact⟨b,T,d⟩
  obtain⟨e,g,j⟩:=f.atI (i:=i) (ah c);exact⟨e,by simpa using g,j⟩
theorem wD{n₀ m₀:jf}(o:N0<=n₀)(l:ji Val)(hl:l.length<=1000000)(B:jf)(M:jj)(w:jg)(q:n₀<=w.heap.size)(a1:m₀<=w.heap.size)(h:w.heap[B]?=jb (jd #[M] 107 (0,0)))(s:aw (·<N0) w (vL l) M):
 AN jl 204 #[jC (jb ⟨B,0,ja⟩)] (λx:jf×Val=>#[jC (jb ⟨x.1,0,ja⟩)]) n₀
  (λxs=>xs.map (·.2)=l/\∀v∈l,v.k=3) (λd P=>P=b9/\∃v r,l=d.map (·.2)++v::r/\v.k≠3) (VIt N0 m₀ l) w:=by
 intro lp R1 Jp W f r y z;have C:=(js.1 h).1;have j:=(f.block B C).trans h;have Q:aw (·<N0) W (vL l) M:=aw.keep (λg (R:g<N0)=>f.block g Y) _ _ s;have a5:n₀<=W.heap.size:=jA q f.size;have ba:m₀<=W.heap.size:=jA a1 f.size;unfold vL at Q;rw[aw]at Q;obtain⟨us,k,t⟩:=Q;obtain⟨-,p,c,rfl,E,F,e⟩:=id k;obtain⟨b,m⟩:=J l.length;rw[<-m]at k j e E hl;have c0:=ae (i:=0) j T;have U1:=O e;have HV:=O t;have Zk:=O m;have u:=O o;have HJ:=O r;have D:=O y;have H0:=O z;clear h s q e t m r y z j k o f E F C;refine(qt (n:=0)).1 ?_;refine callsIn_of_wp func204 T trivial ?_ T;simp only[ntmps204,jD,qB,List.length_nil,Nat.reduceAdd,Nat.reduceSub,Array.replicate_succ,Array.replicate_zero,List.push_toArray,List.append_toArray,List.nil_append,oj]
 gi_wp2_with fail
 gi_loopw [8] (λs wr=>W.heap.size<=wr.heap.size/\∃(i:jf) (d:ji (jf×Val)),s=I N i/\i<=b/\jc (d.map (·.2)=l.take i)/\jc (∀v∈l.take i,v.k=3)/\jc (jm n₀ W wr)/\jc (R1 d wr)) (λs _=>(b-jK s).toNat)
 case atStart=>exact⟨jn _,0,[],T,by omega,O rfl,O (λv h=>by simp at h),O (j9 _ _),H0⟩
 obtain⟨bb,i,d,rfl,hi,S,HK,C,U⟩:=hrel
 by_cases a2:i<b
 case neg=>
  obtain rfl:b=i:=Y;have hd:decide ((b:jh)<(b:jh))=jo:=by simp
  have Sm:decide (b<b)=jo:=by simp
  have f:jc (l.take b=l):=O (j5 (by rw[Zk];exact jn _));clear D c0
  gi_wp2
  refine bodyPost_end (results_none T _ _ _) T ?_;exact .inl ⟨⟨_,T⟩,d,⟨by rw[S,f],λv h=>HK v (by rw[f];exact h)⟩,U⟩
 have hd:=ao ((i:jh)<(b:jh));have Sm:=ao (i<b);obtain⟨g,o,rfl,R,e⟩:=U1 Y;have y:i<l.length:=by rw[<-Zk];exact a2
 obtain⟨x,s⟩:=J (l[i]);have z:l[i]?=jb x:=by rw[s];exact jY y
 obtain⟨xu,K,E⟩:=aC.atI HV z;obtain⟨f,k,rfl⟩:=E.form;have r:∀j v,(eS x (A f x.l.length k))[j]?=jb v->j<4->wr.cell? ⟨g,o+(i*4+j),ja⟩=jb v:=λj v hj h4=>by
  have m:=e (i*4+j) v ((pC l us i j x _ z K h4).trans hj);exact(bX (a:=⟨g,o+(i*4+j),ja⟩) (C.block g (aA u))).trans m
 have V:=r 0 _ T G;have X:=r 1 _ T G;have d2:=r 2 _ T G;have d3:=r 3 _ T G;have aa:jc (aw (·<N0) wr x (A f x.l.length k)):=O (aw.keep (λg (R:g<N0)=>C.block g (aA u)) _ _ E);have Yt:jc (l.take (i+1)=l.take i++[x]):=O (by rw[s];exact qy y);have a3:jc (l=l.take i++x::l.drop (i+1)):=O (by rw[s];simp);obtain⟨m,F⟩:=J x.k;obtain⟨xn,WC⟩:=J x.n;obtain⟨xs,TE⟩:=J x.s;obtain⟨q,H⟩:=J x.l.length;rw[<-F]at V;rw[<-WC]at X;rw[<-TE]at d2;rw[<-H]at d3 aa;have bc:=O H;have ad:=O F;simp only[<-Nat.add_assoc,Nat.add_zero]at V X d2 d3;clear r e z K E s F WC TE H y;have e:=ai wr (jd #[I N m,I N xn,je xs,A f q k] 128);have s:=jt wr (jd #[I N m,I N xn,je xs,A f q k] 128);obtain⟨E,F⟩:=J (wr.alloc (jd #[I N m,I N xn,je xs,A f q k] 128));obtain⟨y,H⟩:=J wr.heap.size;rw[<-F]at e s;rw[<-H]at s;have e3:=ae (i:=3) s T;have e0:=ae (i:=0) s T;have SC:=O (HJ _ _ _ U.out (dG.ofBelow (B0:=W.heap.size) e));have RD:=O (C.trans (e.mono Y));have al:jc (aw (·<N0) E x (A f q k)):=O (aw.keep (λg (R:g<N0)=>e.block g (aA u)) _ _ aa.out);have K:=O F;have r:=O H;have au:E.heap.size=y+1:=by rw[F,H];simp
 have z:=O au;clear e s F H au U C aa
 by_cases s:m=3
 ·have t1:(m !=3)=jo:=ah s
  have T5:=O s;clear s;have F:=ai E (jd #[A f q k] 216);have H:=bj.new (N0:=N0) (l:=x.l) (x:=x) T al (by have:=z.out;have:=u.out;have:=r.out;omega);obtain⟨W2,C⟩:=J (E.alloc (jd #[A f q k] 216));rw[<-C]at F;rw[<-C,z]at H;have TF:=O (HJ _ _ _ SC.out (dG.ofBelow (B0:=W.heap.size) F));have RE:=O (RD.trans (F.mono (eF z r)));have U:W2.heap.size=y+2:=by rw[C];simp[z.out]
  have SU:jc (∀v∈l.take (i+1),v.k=3):=O (by
   intro v t;rw[Yt]at t
   rcases List.mem_append.1 t with h|h
   ·exact HK v h
   have:v=x:=ah h;rw[this,<-ad];exact T5)
  have TQ:jc ((d++[(y+1,x)]).map (·.2)=l.take (i+1)):=O (by rw[lw,S,Yt];rfl);have au:=D d (y+1,x) W2 TF (by
   refine⟨by rw[U];have:=u.out;have:=r.out;omega,⟨l.drop (i+1),by rw[TQ,List.take_append_drop]⟩,λaa x' e=>?_⟩;obtain⟨-,h⟩:=List.append_inj' e T;injection h with h
   rw[<-h];exact⟨by rw[<-ad];exact T5,by show m₀<=y+1;have:=r.out;omega,H⟩)
  obtain⟨fn,tmps,assign,body,hy,h⟩:=au;have HR:=O h;have aa:=O C;have R7:=O U;clear F H C U h D SC RD al
  gi_upto_region 3 with fail
  rw[<-K,<-r]
  gi_upto_region 6 with fail
  rw[<-aa,z];clear K aa V X d2 d3 e3 e0
  gi_wp2_with fail
  refine⟨T,HR.mono ?_⟩;rintro e H (⟨rfl,h,C⟩|⟨P,rfl,U⟩)
  ·have aa:=O h
   have F:=O (RE.trans C);have a4:W.heap.size<=H.heap.size:=F.size;clear HR h C TF RE hy
   gi_wp2_with fail
   exact⟨⟨a4,i+1,_,by go_num,by omega,TQ,SU,F,aa⟩,by simp only[jK];omega⟩
  exact⟨T,.inr ⟨P,T,.inl U⟩⟩
 have t1:(m !=3)=jp:=ah s;have e:jc (x.k≠3):=O (by rw[<-ad];exact s);clear s
 gi_upto_region 3 with fail
 rw[<-K,<-r];clear K D U1 HV
 gi_wp2_with fail
 exact⟨T,.inr ⟨_,T,.inr ⟨d,⟨T,x,l.drop (i+1),by rw[S];exact a3,e⟩,SC⟩⟩⟩
end
theorem CJ{P:lm}{c:j4}{b:jV->Act->jg->Prop}{a:Act}(e:w'=w)(h:c.wp P b a w'):c.wp P b a w:=e▸h
theorem gP{U:lm}{fn:FuncId}{x y:j4}(h:∀K:Act->jg->Prop,(∀f w,WpF U fn y e f w->K f w)->WpF U fn x (Exit.then K e) f w):WpF U fn (.seq x y) e f w:=
 G9 (h _ λ_ _ h=>h)
def oy(cs:ju jj):jf->ji jj->ju jj
 |_,[]=>cs
 |o,v::a=>oy (cs.setIfInBounds o v) (o+1) a
theorem zn:∀(d a c b:ji jj),c.length=d.length->oy (a++c++b).toArray a.length d=(a++d++b).toArray
 |[],a,c,b,h=>by
  obtain rfl:c=[]:=qj h
  rfl
 |v::d,a,[],b,h=>by simp at h
 |v::d,a,x::c,b,h=>by
  have e:(a++x::c++b).toArray.setIfInBounds a.length v=((a++[v])++c++b).toArray:=by
   apply ms
   rw[mz];show pa (a++x::c++b) a.length v=_;rw[qu,mF _ _ (jn _),qk];simp
  rw[oy,e];have f:=zn d (a++[v]) c b (ah h);rw[mT]at f;have g:oy ((a++[v])++c++b).toArray (a.length+1) d=(a++[v]++d++b).toArray:=f;rw[g];simp
theorem zQ:∀(a:ji jj) (o:jf) (W:jg) (cs:ju jj),W.heap[b]?=jb (jd cs t (0,0))->(W.setCells b o a).heap[b]?=jb (jd (oy cs o a) t (0,0))
 |[],o,W,cs,h=>h
 |v::a,o,W,cs,h=>zQ a (o+1) _ _ (mS v h)
theorem D6(hk:M≠b):∀(a:ji jj) (o:jf) (W:jg),(W.setCells b o a).heap[M]?=W.heap[M]?
 |[],o,W=>rfl
 |v::a,o,W=>(D6 hk a (o+1) (W.setCell ⟨b,o,ja⟩ v)).trans (fR v hk)
theorem AP(b:jf):∀(a:ji jj) (o:jf) (W:jg),(W.setCells b o a).heap.size=W.heap.size
 |[],o,W=>rfl
 |v::a,o,W=>(AP b a (o+1) (W.setCell ⟨b,o,ja⟩ v)).trans (lY _ _ _)
theorem tA(b:jf):∀(a:ji jj) (o:jf) (W:jg),(W.setCells b o a).os=W.os/\(W.setCells b o a).tape=W.tape/\(W.setCells b o a).output=W.output
 |[],o,W=>⟨rfl,rfl,rfl⟩
 |v::a,o,W=>tA b a (o+1) (W.setCell ⟨b,o,ja⟩ v)
theorem Gv(R n:jf)(a:ji jj)(o:jf)(W:jg):aM R n W (W.setCells R o a):=
 ⟨(tA R a o W).1,(tA R a o W).2.1,(tA R a o W).2.2,jR (AP _ _ _ _).symm,λk _ hk=>D6 hk a o W⟩
theorem gK(c:aD)(q:CQ)(a:c.parent.length=32)(b:c.confirm.length=32):(av c q).toArray.size=73:=by rw[jD,fa c q a b]
theorem N5(c:aD)(q:CQ)(n:jh):(av c q).toArray.setIfInBounds 0 (I N n)=(av {c with folder:=n} q).toArray:=by simp[av]
theorem It(c:aD)(q:CQ)(n:jh):(av c q).toArray.setIfInBounds 1 (I N n)=(av {c with epoch:=n} q).toArray:=by simp[av]
theorem PK(c:aD)(q:CQ)(k:af)(a:c.parent.length=32)(b:k.length=32):oy (av c q).toArray 2 (k.map v8)=(av {c with parent:=k} q).toArray:=by
 have h:=zn (k.map v8) [I N c.folder,I N c.epoch] (c.parent.map v8) (I N c.author::q.vc::q.vp::q.vb::q.vw::(c.confirm.map v8++[I N c.r,I N c.s])) (by simp[a,b]);exact h
theorem P5(c:aD)(q:CQ)(n:jh)(a:c.parent.length=32):(av c q).toArray.setIfInBounds 34 (I N n)=(av {c with author:=n} q).toArray:=by
 apply ms
 rw[mz];unfold av;have b:(c.parent.map v8).length=32:=by rw[jw];exact a
 show pa (_ ::_ ::(c.parent.map v8++_)) 34 _ =_;rw[qd,qd,mF _ _ Y,b]
 rfl
theorem MB(c:aD)(a b d e x:jj)(f:c.parent.length=32):(av c ⟨a,b,d,e⟩).toArray.setIfInBounds 35 x=(av c ⟨x,b,d,e⟩).toArray:=by
 apply ms
 rw[mz];unfold av;have g:(c.parent.map v8).length=32:=by rw[jw];exact f
 show pa (_ ::_ ::(c.parent.map v8++_)) 35 x=_;rw[qd,qd,mF _ _ Y,g]
 rfl
theorem Q0(c:aD)(q:CQ)(k:af)(a:c.parent.length=32)(b:c.confirm.length=32)(d:k.length=32):oy (av c q).toArray 39 (k.map v8)=(av {c with confirm:=k} q).toArray:=by
 have e:∀x:af,av {c with confirm:=x} q=(I N c.folder::I N c.epoch::(c.parent.map v8++[I N c.author,q.vc,q.vp,q.vb,q.vw]))++x.map v8++[I N c.r,I N c.s]:=λx=>by simp[av]
 have h:=zn (k.map v8) (I N c.folder::I N c.epoch::(c.parent.map v8++[I N c.author,q.vc,q.vp,q.vb,q.vw])) (c.confirm.map v8) [I N c.r,I N c.s] (by simp[b,d]);have f:(jS .i64 c.folder::I N c.epoch::(c.parent.map v8++[I N c.author,q.vc,q.vp,q.vb,q.vw])).length=39:=by simp[a]
 rw[f,<-e,<-e]at h;exact h
theorem PD(c:aD)(q:CQ)(n:jh)(b:c.parent.length=32)(d:c.confirm.length=32):(av c q).toArray.setIfInBounds 71 (I N n)=(av {c with r:=n} q).toArray:=by
 apply ms
 rw[mz];have e:∀x:jh,(av {c with r:=x} q).toArray.toList=(I N c.folder::I N c.epoch::(c.parent.map v8++([I N c.author,q.vc,q.vp,q.vb,q.vw]++c.confirm.map v8)))++[I N x,I N c.s]:=λx=>by simp[av]
 have a:(jS .i64 c.folder::I N c.epoch::(c.parent.map v8++([I N c.author,q.vc,q.vp,q.vb,q.vw]++c.confirm.map v8))).length=71:=by simp[b,d]
 rw[e n,show(av c q).toArray.toList=_ from e c.r,mF _ _ (by rw[a];exact jn _),a]
 rfl
theorem Qm(c:aD)(q:CQ)(n:jh)(b:c.parent.length=32)(d:c.confirm.length=32):(av c q).toArray.setIfInBounds 72 (I N n)=(av {c with s:=n} q).toArray:=by
 apply ms
 rw[mz];have e:∀x:jh,(av {c with s:=x} q).toArray.toList=(I N c.folder::I N c.epoch::(c.parent.map v8++([I N c.author,q.vc,q.vp,q.vb,q.vw]++c.confirm.map v8)))++[I N c.r,I N x]:=λx=>by simp[av]
 have a:(jS .i64 c.folder::I N c.epoch::(c.parent.map v8++([I N c.author,q.vc,q.vp,q.vb,q.vw]++c.confirm.map v8))).length=71:=by simp[b,d]
 rw[e n,show(av c q).toArray.toList=_ from e c.s,mF _ _ (by rw[a];decide),a]
 rfl
theorem NM(c:aD)(a b d e:jj)(f:c.parent.length=32)(g:c.confirm.length=32):(av c ⟨a,b,d,e⟩).toArray[35]?=jb a:=by
 have h:=fk c ⟨a,b,d,e⟩ f g
 simpa using h.2.2.2.1
theorem dy.laterX{i:jg}(n:dy b M t K m X w a h j c)(w0:M<b)(x:b<=R){cs:ju jj}{l:jM}{f:jf×jf}
 (sz:a.heap[R]?=jb (jd cs l f)) (o:l≠K) (wr:aM R a.heap.size a i):dy b M t K m X w i h j c:=by
 have p:=(js.1 n.box).1;refine⟨(wr.block M p Y).trans n.box,?_,?_,jA n.sz' wr.size⟩
 ·refine⟨n.own.1,?_⟩
  rcases n.own.2 with xs|⟨g,k,q,r,xs,d,s⟩
  ·exact .inl xs
  refine .inr ⟨g,k,q,r,xs,(wr.block g (js.1 d).1 (λu=>?_)).trans d,s⟩;rw[u,sz]at d;injection d with d
  injection d with d v y
  exact o v
 exact n.but.trans ⟨wr.os,wr.tape,wr.output,wr.size,λk hk d=>wr.block k (jz hk n.sz') Y⟩ (jn _)
theorem dy.rolls(n:dy M R t K m X w a h j c)(o:M<=b)(wr:dG b a i):dy M R t K m X w i h j c:=by
 refine⟨wr.cells n.box,?_,?_,jA n.sz' wr.size⟩
 ·refine⟨n.own.1,?_⟩
  rcases n.own.2 with B0|⟨g,d,f,k,B0,l,sz⟩
  ·exact .inl B0
  exact .inr ⟨g,d,f,k,B0,wr.cells l,sz⟩
 exact n.but.trans ⟨wr.os,wr.tape,wr.output,wr.size,λk hk B0=>wr.low (jz hk n.sz') Y⟩ (jn _)
theorem dG.cell{B0:jf}{d B:jg}(h:dG B0 d B){a:jN}{v:jj}(b:d.cell? a=jb v):B.cell? a=jb v:=by
 unfold World.cell? at b⊢
 cases ho:d.heap[a.block]? with
 |none=>rw[ho]at b;simp at b
 |some o=>
  cases o with
  |cells c t f=>rw[h.cells ho];rw[ho]at b;exact b
  |_=>rw[ho]at b;simp at b
theorem ay.rolls(h:ay D w j M R c)(w':dG b w a):ay D a j M R c:=by
 obtain⟨B0,p,xs,d,f,i,k⟩:=h;refine⟨B0,p,xs,d,f,i,λl=>?_⟩;obtain⟨g,o,e,m,q⟩:=k l;exact⟨g,o,e,m,λv r s=>w'.cell (q v r s)⟩
theorem cD.rolls(d:dG b w a):∀{c:ji (af)} {w':ji jj},cD D w c w'->cD D a c w'
 |[],w',h=>h
 |B0::c,w',⟨e,f,g,i,j⟩=>⟨e,f,g,i.rolls d,j.rolls d⟩
theorem ay.laterX{z:jB jN}{E:jf×jf}(r:w.heap[b]?=jb (jd #[A z M R] t E))(hk:∀k,D k->k≠b->w'.heap[k]?=w.heap[k]?)
 {v:jj} {n:jf} {l:af} (h:ay D w v 1 n (l.map v8)):ay D w' v 1 n (l.map v8):=by
 obtain⟨d,s,q,u,x,y,p⟩:=h;refine⟨d,s,q,u,x,y,λB=>?_⟩;obtain⟨g,o,e,i,k⟩:=p B;have C:0<l.length:=by rw[jw]at d;omega
 have f:g≠b:=λF=>by
  have X:=k 0 (v8 l[0]) (by rw[mb,jY C];rfl);rw[F]at X;unfold World.cell? at X;simp only[r]at X
  rcases o with _|o
  ·simp[v8]at X
  simp at X
 exact⟨g,o,e,i,λj X H=>(bX (a:=⟨g,o+j,ja⟩) (hk g i f)).trans (k j X H)⟩
theorem cD.laterX{z:jB jN}{E:jf×jf}(e:w.heap[b]?=jb (jd #[A z M R] t E))(hk:∀k,D k->k≠b->a.heap[k]?=w.heap[k]?):∀{d:ji (af)} {w':ji jj},cD D w d w'->cD D a d w'
 |[],w',h=>h
 |X::d,w',⟨i,j,k,l,n⟩=>⟨i,j,k,l.laterX e hk,n.laterX e hk⟩
theorem cP.laterX{f:y->jj->ji jj}{body:y->af}{i:jg}{l:ji y}(n:cP b M t K m f body X w a h j l c)(s:M<b)(u:b<=R)
 {p:jB jN} {k o:jf} {q:jM} {fr:jf×jf} (r:a.heap[R]?=jb (jd #[A p k o] q fr)) (v:q≠K) (d:aM R a.heap.size a i):cP b M t K m f body X w i h j l c:=
 ⟨n.row.laterX s u r v d,(n.kids.laterX r (λg wr w0=>d.block g wr.2.1 w0)).mono λg wr=>⟨wr.1,jz wr.2.1 d.size,wr.2.2⟩⟩
theorem cP.rolls{f:y->jj->ji jj}{body:y->af}{l:ji y}(n:cP M R t K m f body X w a h j l c)(k:M<=b)(wr:dG b a i):cP M R t K m f body X w i h j l c:=
 ⟨n.row.rolls k wr,(n.kids.rolls wr).mono λg B0=>⟨B0.1,jz B0.2.1 wr.size,B0.2.2⟩⟩
theorem gZ{B0 X:jf}{W:jg}{cs:ju jj}{f:jf×jf}(c:a.heap[X]?=jb (jd cs t f))(b:aM X a.heap.size a W):oi B0 a W:=
 ⟨b.size,λk o _ hk d=>(b.block k (js.1 hk).1 (λe=>by rw[e,c]at hk;cases hk;cases d)).trans hk⟩
theorem yK{B0 i:jf}{e:jM}{sz n:jf}{q:jj->ju jj}{w0 b c:jg}{d f:jj}{r:ji jj}(h:dy M R t e sz q w0 b n d xs)(j:bS M e sz b c d f m r):oi B0 b (c.setCell ⟨R,i,ja⟩ f):=by
 refine⟨by rw[lY];exact j.grown.size,λk o _ hk l=>?_⟩;have s:=(js.1 hk).1;refine(fR _ (λe=>by rw[e,h.box]at hk;cases hk;cases l)).trans ((j.grown.block k s (λa=>?_)).trans hk)
 rcases h.own.2 with p|⟨g,w,x,u,p,v,y⟩
 ·rw[p.1]at a;cases a
 rw[u]at a;injection a with a
 rw[a,v]at hk;cases hk;cases l
theorem yx(B0:jf)(a:jg)(o:Obj):oi B0 a (a.alloc o):=⟨by simp,λk b _ hk _=>(qc _ _ _ (js.1 hk).1).trans hk⟩
theorem sP{f:ji Val->jB y}:∀{l:ji Val} {b:ji y} {v:Val} {a:y},cB f l=jb b->v.k=3->f v.l=jb a->cB f (l++[v])=jb (b++[a])
 |[],b,v,a,h,hk,c=>by
  rw[cB]at h;injection h with h
  subst h;show cB f [v]=_;rw[cB,jv hk,c,jT,cB]
  rfl
 |x::l,b,v,a,h,hk,c=>by
  rw[cB]at h
  by_cases d:x.k=3
  ·rw[jv d]at h
   cases hfx:f x.l with
   |none=>rw[hfx]at h;cases h
   |some α=>
    rw[hfx,jT]at h
    cases hr:cB f l with
    |none=>rw[hr]at h;cases h
    |some e=>
     rw[hr,qe]at h;injection h with h
     rw[oj,cB,jv d,hfx,jT,sP hr hk c,<-h]
     rfl
  rw[jG d]at h;cases h
theorem nG{f:ji Val->jB y}(a:x.k≠3\/f x.l=ja):∀{l:ji Val} {b:ji y},cB f l=jb b->cB f (l++x::r)=ja
 |[],b,h=>by
  show cB f (x::r)=ja;rw[cB]
  rcases a with a|a
  ·rw[jG a]
  split
  ·rw[a];rfl
  rfl
 |v::l,b,h=>by
  rw[cB]at h
  by_cases c:v.k=3
  ·rw[jv c]at h
   cases hfx:f v.l with
   |none=>rw[hfx]at h;cases h
   |some α=>
    rw[hfx,jT]at h
    cases hr:cB f l with
    |none=>rw[hr]at h;cases h
    |some d=>
     rw[oj,cB,jv c,hfx,jT,nG a hr]
     rfl
  rw[jG c]at h;cases h
theorem tv{f:ji Val->jB y}:∀{l:ji Val} {a:ji y},cB f l=jb a->a.length=l.length
 |[],a,h=>by
  rw[cB]at h;injection h with h
  rw[<-h];rfl
 |x::l,a,h=>by
  rw[cB]at h
  by_cases b:x.k=3
  ·rw[jv b]at h
   cases hfx:f x.l with
   |none=>rw[hfx]at h;cases h
   |some α=>
    rw[hfx,jT]at h
    cases hr:cB f l with
    |none=>rw[hr]at h;cases h
    |some c=>
     rw[hr,qe]at h;injection h with h
     rw[<-h];simp[tv hr]
  rw[jG b]at h;cases h
theorem NP(v:Val)(l:ji Val):(rI (v::l)=ja->v.k≠1)/\∀r,rI (v::l)=jb r->v.k=1/\r=(v.n,l):=by
 have e:rI (v::l)=(if v.k=1 then jb (v,l)else ja).map λr=>(r.1.n,r.2):=T
 rw[e]
 by_cases hk:v.k=1
 ·rw[jv hk]
  exact⟨(λh=>by cases h),λr h=>⟨hk,by injection h with h;exact h.symm⟩⟩
 rw[jG hk];exact⟨λ_=>hk,(λr h=>by cases h)⟩
theorem Dp:∀{l:ji Val} {a:ji jh},dl l=jb a->a.length=l.length
 |[],a,h=>by
  rw[dl]at h;injection h with h
  rw[<-h];rfl
 |v::l,a,h=>by
  rw[dl]at h
  by_cases hk:v.k=1
  ·rw[jv hk]at h
   cases hr:dl l with
   |none=>rw[hr]at h;cases h
   |some b=>
    rw[hr,qe]at h;injection h with h
    rw[<-h];simp[Dp hr]
  rw[jG hk]at h;cases h
theorem FV:∀{l:ji Val} {a:ji jh} {v:Val},dl l=jb a->v.k=1->dl (l++[v])=jb (a++[v.n])
 |[],a,v,h,hk=>by
  rw[dl]at h;injection h with h
  subst h;show dl [v]=_;rw[dl,jv hk,dl]
  rfl
 |x::l,a,v,h,hk=>by
  rw[dl]at h
  by_cases b:x.k=1
  ·rw[jv b]at h
   cases hr:dl l with
   |none=>rw[hr]at h;cases h
   |some c=>
    rw[hr,qe]at h;injection h with h
    rw[oj,dl,jv b,FV hr hk,<-h]
    rfl
  rw[jG b]at h;cases h
theorem zW(c:x.k≠1):∀{l:ji Val} {a:ji jh},dl l=jb a->dl (l++x::r)=ja
 |[],a,h=>by
  show dl (x::r)=ja;rw[dl,jG c]
 |v::l,a,h=>by
  rw[dl]at h
  by_cases b:v.k=1
  ·rw[jv b]at h
   cases hr:dl l with
   |none=>rw[hr]at h;cases h
   |some d=>
    rw[oj,dl,jv b,zW c hr]
    rfl
  rw[jG b]at h;cases h
def wS(P:jf)(w:jg):jf:=match w.cell? ⟨P,0,ja⟩with|some (A _ n _)=>n|_=>0
theorem FW(h:bj b w M r):wS M w=r.length:=by
 obtain⟨p,c,N0,a,-,-⟩:=h;have:w.cell? ⟨M,0,ja⟩=jb (A p r.length c):=ae a T;unfold wS;rw[this]
theorem iE(h:aM b R w a)(k:aM M a.heap.size a i)(d:R<=M)(e:R<=a.heap.size):aM b R w i:=
 h.trans ⟨k.os,k.tape,k.output,k.size,λc f _=>k.block c Y Y⟩ (jn _)
theorem vz(h:aM b M w a)(k:aM b M w i)(e:a.heap.size<=i.heap.size)(f:R<=b)(g:R<=M):jm R a i:=
 ⟨k.os.trans h.os.symm,k.tape.trans h.tape.symm,k.output.trans h.output.symm,e,λc j=>(k.block c Y Y).trans (h.block c Y Y).symm⟩
theorem J4:(jl.info? 47).map (λi=>(i.zero,i.size,i.bytes))=jb (jb (jk #[I N 0,I N 0,I N 0,I N 0,I N 0]),5,40):=by kernel_rfl
theorem IB{w:jg}{o:Oper}{f:Act}{K:Act->jg->Prop}{e:jV->Act->jg->Prop}(s x:nn)
 (a:o.op=.call {callee:=.builtin .append,args:=#[s,x],argTypes:=#[30,30]})
 (B:jf) (v:jj) (n:jf) (xs:ji jj) (g:f.eval s=v) (i:w.ownsRow B 47 5 v n xs) (b:jj) (m:jf) (c:ji jj) (j:f.eval x=b) (k:cO w b 5 m c) (l:∀b∈c,b.oneCell'=jp)
 (E:n+m<=2900000) (p:B<=w.heap.size) (h:∀d w',bS B 47 5 w w' v d (n+m) (xs++c)->K (f.put o.dst d) w'):o.wp jl f w K e:=by
 obtain⟨q,r,t,u,y⟩:=mm J4;exact mN s x 30 a B 47 q _ 5 40 underlying30 r t u y T G v n xs g i b m c j k l (by unfold maxLen;omega) Y p
  λd w' z C D=>h d w' (mj z C D)
end Go.Proofs.YtdjkajodkjfjlaaGreatDoor
