/- Texts of the proof, part 6 of 8 (Ic Ja Nc Nb Hc Na Ne Nf Ng Hd Qa Qb Qc Qd). -/
import Derived.Laws.StructEq
import Derived.Laws.BitsAllLaws
import Derived.Test.YthpmekcffpppkaaGreatDoorZR1
import Derived.Test.YthpmekcffpppkaaGreatDoorZR4
import Derived.Test.YthpmekcffpppkaaGreatDoorZR5
namespace Go.Proofs.YthpmekcffpppkaaGreatDoor
set_option maxHeartbeats 64000000
set_option maxRecDepth 100000
set_option linter.unusedVariables false
set_option linter.unusedSimpArgs false
open Go.RowKit
open Go.Proofs.Tryz
open Go.Value renaming int->I
open Go.IntKind renaming i64->N
open Go.Value renaming slice->T,string->ja,agg->jb,tuple->jv,pointer->jN
open _root_.Option renaming some->A,none->ii,bind_some->jK,map_some->jX,isSome_iff_exists->ow
open Go.Obj renaming cells->ic
open Go.RowKit renaming Hid->ih,Below->jf
open Go renaming Value->jc,World->je,wpList_plain->jg,Calls->jj,wp_store_row->jn,wp_region_lit->jo,setRow_other->jt,setRow_heap->ju,TypeId->jy,below_setRow->jA,wp_region_noPanic->jF,Addr->jI,maxLen->jJ,bodyPost_ret_by->jQ,wpList_load_row->jS,Operand->j6,execOp->j7,bodyPost_ret->kn,wp_store_mid->oi
open Go.Proofs.Tryz renaming prog->jd
open Go.Ending renaming returned->jh
open Go.World renaming alloc_heap_new->ji,size_alloc->js,ownsRow_nil->lm
open _root_.List renaming length_map->jk,size_toArray->jp,length_append->jG,mem_cons->jL,map_cons->jT,length_take->jU,getElem?_eq_getElem->jV,take_of_length_le->jW,set_cons_succ->jY,map_append->j0,getD->j1,mem_cons_self->j3,set_append_right->j4,getElem?_map->j5,mem_cons_of_mem->j8,mem_map->j9,range->ki,not_mem_nil->lo,length_cons->lr,set->mb,mem_append->ms,take_length->mz,mem_of_getElem?->nn,append_assoc->oo,mem_nil_iff->o4,getElem?_eq_some_iff->pa,map->pz,find?_append->qa,getElem?_toArray->qe,map_nil->qf,cons_append->qk,take_append_drop->ql,mem_filter->qm,mem_toArray->qs,take_succ_eq_append_getElem->qt,flatMap_def->qv,mem_singleton->qw,length_set->qx,map_toArray->qy,replicate->qA,take_add_one->qB
open Go.Proofs renaming intOf->jl
open _root_.Nat renaming lt_of_lt_of_le->jm,le_refl->jq,le_trans->jw,le_of_eq->jz,zero_le->jH,pow_add->oj,mul_comm->ol,zero_add->p6,eq_zero_or_pos->qh
open Go.Proofs.Tryz renaming underlying37->jr,underlying53->jB,underlying29->jR,underlying45->jZ,ntmps65->kw,underlying23->qg
open _root_.Array renaming getElem?_eq_some_iff->jC,ext'->lv,toList_setIfInBounds->lw,size_setIfInBounds->qd,all_eq_true_iff_forall_mem->qo,getElem?_setIfInBounds_ne->qu
open Go.Value renaming oneCell'->jD,int->jO,slice->jP
open Go.NoPanic renaming normal->jE
open Go.RowKit.Below renaming refl->jM,setCell->qc
open _root_.BitVec renaming ofInt->kl,eq_of_toNat_eq->qi,ofNat->qj
open Go.IntKind renaming wrap_i64->km,i64->qb
open _root_.Int renaming eq_ofNat_of_zero_le->ob,toNat_natCast->qz
open _root_.Bool renaming and_false->qn
structure Vld(M c:Nat)(wr:je)(l:List Val)(a:jc)(b:List jc):Prop where
 box:wr.heap[c]?=A (ic #[I N 3,I N 0,ja ⟨#[]⟩,a] 118 (0,0))
 own:wr.ownsRow M 118 4 a l.length (aX l b)
 kids:ax (λg=>M<=g/\g<wr.heap.size/\a.ownBlock≠A g) wr l b
 sz:M<=wr.heap.size
theorem Vld.start{M a:Nat}{w:je}(b:w.heap[a]?=A (ic #[I N 3,I N 0,ja ⟨#[]⟩,bJ] 118 (0,0)))(c:M<=w.heap.size):Vld M a w [] bJ []:=
 ⟨b,by simpa [aX]using lm w M 118 4,by rw[ax],c⟩
theorem Df{B sz n:Nat}{e:jy}{w w':je}{v:jc}{xs:List jc}(h:w.ownsRow B e sz v n xs)(hk:∀k,B<=k->k<w.heap.size->w'.heap[k]?=w.heap[k]?):w'.ownsRow B e sz v n xs:=by
 refine⟨h.1,?_⟩
 rcases h.2 with a|⟨g,c,d,f,a,b,i⟩
 ·exact .inl a
 exact .inr ⟨g,c,d,f,a,(hk g a (jC.1 b).1).trans b,i⟩
theorem Vld.later{M a:Nat}{wr d:je}{l:List Val}{e:jc}{c:List jc}(h:Vld M a wr l e c)(i:a<M)(f:wr.heap.size<=d.heap.size)(hk:∀k,a<=k->k<wr.heap.size->d.heap[k]?=wr.heap[k]?):Vld M a d l e c:=
 ⟨(hk a (jq _) (jm i h.sz)).trans h.box,Df h.own (λk g b=>hk k Y b),ax.mono (λg b=>⟨b.1,jm b.2.1 f,b.2.2⟩) l c (ax.keep (λg b=>hk g Y b.2.1) l c h.kids),jw h.sz f⟩
theorem Vld.push{M f:Nat}{a p i:je}{l:List Val}{j n:jc}{c:List jc}(h:Vld M f a l j c)(v:f<M){x:Val}{d:jc}
 (s:ao (λg=>M<=g/\g<a.heap.size/\j.ownBlock≠A g) a x d) (m:aW M 118 4 a p j n (l.length+1) (aX l c++eo x d))
 (t:i.heap[f]?=A (ic #[I N 3,I N 0,ja ⟨#[]⟩,n] 118 (0,0))) (o:kC f p i):Vld M f i (l++[x]) n (c++[d]):=by
 have u:=h.kids.len;have q:∀g,(M<=g/\g<a.heap.size/\j.ownBlock≠A g)->i.heap[g]?=a.heap[g]?:=λg b=>
  (o.block g Y).trans (m.grown.block g b.2.1 (λe=>b.2.2 e.symm))
 have r:∀g,(M<=g/\g<a.heap.size/\j.ownBlock≠A g)->(M<=g/\g<i.heap.size/\n.ownBlock≠A g):=λg b=>
  ⟨b.1,by rw[o.size];exact jm b.2.1 m.grown.size,m.ne b.2.1 b.2.2⟩
 refine⟨t,?_,ax.append (ax.mono r _ _ (ax.keep q _ _ h.kids)) (ax.one (ao.mono r _ _ (ao.keep q _ _ s))),?_⟩
 ·have e:aX (l++[x]) (c++[d])=aX l c++eo x d:=by
   rw[nf l [x] c [d] u];simp[aX]
  rw[e,jG];exact Df m.own (λk w _=>o.block k Y)
 rw[o.size];exact jw h.sz m.grown.size
def Cv(R:Nat)(w:je)(o:Option (Val×LBy))(e:Ending)(w':je):Prop:=
 aD R w.heap.size w w'/\match o with
  |some r=>(∃a,e=jh (jb #[I N r.1.k,I N r.1.n,ja r.1.s,a])/\ao (λg=>w.heap.size<=g/\g<w'.heap.size) w' r.1 a)/\RdC w' R r.2
  |none=>e=.panicked gO
theorem ER:∀(f i:Nat) (l:LBy) (r:Nat×LBy),i+f=9->bP f i l=A r->r.1*2^(7*i)<2^64
 |f,i,[],r,_,h=>by cases f<;>simp[bP]at h
 |0,i,b::l,r,d,h=>by
  obtain rfl:i=9:=Y;simp only[bP]at h
  split at h
  ·rename_i a
   split at h
   ·injection h with h
    rw[<-h];have:b.toNat<=1:=by have:=a.2;omega
    show b.toNat*2^63<2^64;omega
   cases h
  cases h
 |f+1,i,b::l,r,d,h=>by
  simp only[bP]at h
  split at h
  ·split at h
   ·injection h with h
    rw[<-h];have a:2^(7*i)<=2^56:=Nat.pow_le_pow_right Y Y;have c:b.toNat<256:=b.isLt;show b.toNat*2^(7*i)<2^64;have:b.toNat*2^(7*i)<=255*2^56:=Nat.mul_le_mul Y a;have:255*2^56<2^64:=by decide
    omega
   cases hh:bP f (i+1) l with
   |none=>rw[hh]at h;cases h
   |some q=>
    rw[hh]at h;injection h with h
    rw[<-h];have a:=ER f (i+1) l q Y hh;have e:2^(7*(i+1))=128*2^(7*i):=by rw[show 7*(i+1)=7*i+7 by omega,oj,ol]
    show(b.toNat%128+128*q.1)*2^(7*i)<2^64;rw[e]at a;rw[Nat.add_mul];have c:q.1*(128*2^(7*i))=128*q.1*2^(7*i):=by rw[<-Nat.mul_assoc,ol q.1 128]
    rw[c]at a;have n:(b.toNat%128)*2^(7*i)<128*2^(7*i):=Nat.mul_lt_mul_of_pos_right Y (Nat.pos_of_ne_zero ar);have g:2^64=2^(64-7*i-7)*(128*2^(7*i)):=by
     rw[show 128*2^(7*i)=2^(7*i+7) by rw[oj,ol],<-oj]
     congr 1
     omega
    have j:128*q.1*2^(7*i)=q.1*(128*2^(7*i)):=c.symm;rw[j]at a⊢;rw[g]at a⊢;have k:q.1<2^(64-7*i-7):=Nat.lt_of_mul_lt_mul_right a;have m:(q.1+1)*(128*2^(7*i))<=2^(64-7*i-7)*(128*2^(7*i)):=Nat.mul_le_mul_right _ k;rw[Nat.add_mul,Nat.one_mul]at m;omega
  cases h
theorem zW{l:LBy}{r:Nat×LBy}(h:bP 9 0 l=A r):r.1<18446744073709551616:=by
 have:=ER 9 0 l r rfl h
 simpa using this
noncomputable def kG(b:LBy):Option Cmt:=by
 classical exact(dec b).bind λv=>(gC v).bind λc=>if fl c/\enc (vL (aB c))=b then A c else ii
@[simp] theorem Qb (n):(vI n).k=1:=rfl
@[simp] theorem Qe (b):(vT b).k=2:=rfl
@[simp] theorem Qf (l):(vL l).k=3:=rfl
@[simp] theorem Qh (n):(vI n).n=n:=rfl
@[simp] theorem PX (b):(vT b).s=ofB b:=rfl
@[simp] theorem P9 (l):(vL l).l=l:=rfl
theorem oD(n:Int)(l:List Val):rI (vI n::l)=A (n,l):=by simp[rI,nx]
theorem AB(b:LBy)(l:List Val):rT (vT b::l)=A (ofB b,l):=by simp[rT,nx]
theorem Oj(x l:List Val):rL (vL x::l)=A (x,l):=by simp[rL,nx]
theorem B7(b:LBy)(h:b.length=32)(l:List Val):rD (vT b::l)=A (b,l):=by
 rw[rD,AB,jK,if_pos (by rw[tR];exact h),ng]
theorem CY(n:Int)(b:LBy)(l:List Val):rW (vI n::vT b::l)=A ((n,b),l):=by
 rw[rW,oD,jK,AB,jX,ng]
theorem LU(x:Chg):gU x.val.l=A x:=by
 show gU [vI x.k,vI x.d,vI x.p,vI x.v,vI x.c]=A x;simp only[gU,oD,jK,jX]
theorem It(x:Bx):rBx x.val.l=A x:=by
 show rBx [vI x.node,vI x.lev,vI x.u,vT x.body]=A x;simp only[rBx,oD,CY,jK,jX]
theorem Md(x:Wl):rWl x.val.l=A x:=by
 show rWl [vI x.dev,vI x.u,vT x.body]=A x;simp only[rWl,oD,CY,jK,jX]
theorem tK{α:Type}(f:List Val->Option α)(g:α->Val)(hk:∀x,(g x).k=3)(a:∀x,f (g x).l=A x):∀l:List α,bL f (l.map g)=A l
 |[]=>rfl
 |x::l=>by
  rw[jT,bL,if_pos (hk x),a x,jK,tK f g hk a l,jX]
theorem BF:∀l:List Int,cR (l.map vI)=A l
 |[]=>rfl
 |x::l=>by rw[jT,cR,if_pos (show(vI x).k=1 from rfl),BF l,jX];rfl
theorem Mm(c:Cmt)(a:c.parent.length=32)(b:c.confirm.length=32):gC (vL (aB c))=A c:=by
 have e:(vL (aB c)).l=[vI c.folder,vI c.epoch,vT c.parent,vI c.author,vL (c.chg.map Chg.val),vL (c.path.map vI),vL (c.box.map Bx.val),vL (c.wel.map Wl.val),vT c.confirm,vI c.r,vI c.s]:=rfl;simp only[gC,e,oD,Oj,jK,jX,B7 _ a,B7 _ b,tK gU Chg.val (λ_=>rfl) LU,tK rBx Bx.val (λ_=>rfl) It,
  tK rWl Wl.val (λ_=>rfl) Md,BF]
theorem Jj(c:Cmt)(a:c.parent.length=32)(b:c.confirm.length=32)(d:dC (aB c))(e:fl c):kG (enc (vL (aB c)))=A c:=by
 unfold kG;rw[Mw _ d.wf,jK,Mm c a b,jK,if_pos ⟨e,rfl⟩]
theorem kX{k:Int}{l:List Val}{r:Val×List Val}(h:nx k l=A r):l=r.1::r.2/\r.1.k=k:=by
 rcases l with _|⟨x,l⟩
 ·cases h
 rw[nx]at h
 split at h
 ·injection h with h;rw[<-h];exact⟨rfl,by assumption⟩
 cases h
theorem Ct{f:Nat}{x:Val}(h:wfV f x)(hk:x.k=1):x=vI x.n/\IR x.n:=by
 obtain⟨k,n,s,l⟩:=x;obtain rfl:k=1:=hk
 cases f<;>rw[wfV]at h<;>rcases h with⟨-,a,b,rfl,rfl⟩|⟨e,-⟩|⟨e,-⟩<;>first|exact⟨rfl,a,b⟩|exact absurd e L
theorem Jg{f:Nat}{x:Val}(h:wfV f x)(hk:x.k=2):x=vT (aK x.s)/\x.s.size<4611686018427387904:=by
 obtain⟨k,n,s,l⟩:=x;obtain rfl:k=2:=hk
 cases f<;>rw[wfV]at h<;>rcases h with⟨e,-⟩|⟨-,rfl,a,rfl⟩|⟨e,-⟩<;>first|exact⟨by rw[vT];show Val.mk 2 0 s []=Val.mk 2 0 (ofB (aK s)) [];rw[wW],a⟩|exact absurd e L
theorem nY{f:Nat}{x:Val}(h:wfV f x)(hk:x.k=3):∃g,f=g+1/\x=vL x.l/\x.l.length<4611686018427387904/\∀y∈x.l,wfV g y:=by
 obtain⟨k,n,s,l⟩:=x;obtain rfl:k=3:=hk
 rcases f with _|f
 ·rw[wfV]at h;rcases h with⟨e,-⟩|⟨e,-⟩|⟨-,-,-,-,e⟩<;>first|exact absurd e L|exact e.elim
 rw[wfV]at h
 rcases h with⟨e,-⟩|⟨e,-⟩|⟨-,rfl,rfl,a,b⟩
 ·exact absurd e L
 ·exact absurd e L
 exact⟨f,rfl,rfl,a,b⟩
theorem fR{f:Nat}{l:List Val}{r:Int×List Val}(h:rI l=A r)(a:∀x∈l,wfV f x):l=vI r.1::r.2/\IR r.1:=by
 unfold rI at h
 cases h1:nx 1 l with
 |none=>rw[h1]at h;cases h
 |some q=>
  rw[h1]at h;injection h with h
  obtain⟨e,b⟩:=kX h1;have:=Ct (a q.1 (by rw[e];exact j3 ..)) b;rw[<-h];exact⟨by rw[e];exact congrArg (·::q.2) this.1,this.2⟩
theorem A7{f:Nat}{l:List Val}{r:ByteArray×List Val}(h:rT l=A r)(a:∀x∈l,wfV f x):l=vT (aK r.1)::r.2:=by
 unfold rT at h
 cases h1:nx 2 l with
 |none=>rw[h1]at h;cases h
 |some q=>
  rw[h1]at h;injection h with h
  obtain⟨e,b⟩:=kX h1;have:=Jg (a q.1 (by rw[e];exact j3 ..)) b;rw[<-h,e];exact congrArg (·::q.2) this.1
theorem tB{f:Nat}{l:List Val}{r:List Val×List Val}(h:rL l=A r)(a:∀x∈l,wfV (f+1) x):l=vL r.1::r.2/\∀x∈r.1,wfV f x:=by
 unfold rL at h
 cases h1:nx 3 l with
 |none=>rw[h1]at h;cases h
 |some q=>
  rw[h1]at h;injection h with h
  obtain⟨e,b⟩:=kX h1;obtain⟨g,i,c,-,d⟩:=nY (a q.1 (by rw[e];exact j3 ..)) b;obtain rfl:f=g:=Y;rw[<-h];exact⟨by rw[e];exact congrArg (·::q.2) c,d⟩
theorem Cm{f:Nat}{l:List Val}{r:LBy×List Val}(h:rD l=A r)(a:∀x∈l,wfV f x):l=vT r.1::r.2/\r.1.length=32:=by
 unfold rD at h
 cases h1:rT l with
 |none=>rw[h1]at h;cases h
 |some q=>
  rw[h1,jK]at h
  split at h
  ·injection h with h
   rw[<-h];exact⟨A7 h1 a,by rw[eA];assumption⟩
  cases h
theorem Dm{f:Nat}{l:List Val}{r:(Int×LBy)×List Val}(h:rW l=A r)(a:∀x∈l,wfV f x):l=vI r.1.1::vT r.1.2::r.2/\IR r.1.1:=by
 unfold rW at h
 cases h1:rI l with
 |none=>rw[h1]at h;cases h
 |some q=>
  rw[h1,jK]at h;obtain⟨e,b⟩:=fR h1 a
  cases h2:rT q.2 with
  |none=>rw[h2]at h;cases h
  |some p=>
   rw[h2,jX]at h;injection h with h
   have c:=A7 h2 (f:=f) (λx d=>a x (by rw[e];exact j8 _ d));rw[<-h];exact⟨by rw[e,c],b⟩
theorem eU{f:Nat}{l:List Val}{x:Val}{r:List Val}(a:∀x∈l,wfV f x)(e:l=x::r):∀x∈r,wfV f x:=λy b=>a y (by rw[e];exact j8 _ b)
theorem cY{α β:Type}{o:Option α}{f:α->Option β}{b:β}(h:o.bind f=A b):∃a,o=A a/\f a=A b:=by
 rcases o with _|a
 ·cases h
 exact⟨a,rfl,h⟩
theorem fp{α β:Type}{o:Option α}{f:α->β}{b:β}(h:o.map f=A b):∃a,o=A a/\f a=b:=by
 rcases o with _|a
 ·cases h
 exact⟨a,rfl,by injection h⟩
theorem I9{f:Nat}{l:List Val}{c:Chg}(h:gU l=A c)(i:∀x∈l,wfV f x):∃r,l=c.val.l++r/\wfV (f+1) c.val:=by
 obtain⟨a,t,h⟩:=cY h;obtain⟨b,u,h⟩:=cY h;obtain⟨d,v,h⟩:=cY h;obtain⟨e,w,h⟩:=cY h;obtain⟨g,y,h⟩:=fp h;subst h;obtain⟨j,z⟩:=fR t i;have k:=eU i j;obtain⟨m,B⟩:=fR u k;have n:=eU k m;obtain⟨o,C⟩:=fR v n;have p:=eU n o;obtain⟨q,D⟩:=fR w p;have E:=eU p q;obtain⟨F,H⟩:=fR y E;refine⟨g.2,by rw[j,m,o,q,F];rfl,fM (λx s=>?_) ar⟩;simp only[jL,lo,or_false]at s
 rcases s with rfl|rfl|rfl|rfl|rfl
 ·exact bV z
 ·exact bV B
 ·exact bV C
 ·exact bV D
 exact bV H
theorem Nq{f:Nat}{l:List Val}{c:Bx}(h:rBx l=A c)(e:∀x∈l,wfV f x):∃r,l=c.val.l++r/\wfV (f+1) c.val:=by
 obtain⟨a,o,h⟩:=cY h;obtain⟨b,p,h⟩:=cY h;obtain⟨d,q,h⟩:=fp h;subst h;obtain⟨g,s⟩:=fR o e;have i:=eU e g;obtain⟨j,t⟩:=fR p i;have k:=eU i j;obtain⟨m,u⟩:=Dm q k;refine⟨d.2,by rw[g,j,m];rfl,fM (λx n=>?_) ar⟩;simp only[jL,lo,or_false]at n
 rcases n with rfl|rfl|rfl|rfl
 ·exact bV s
 ·exact bV t
 ·exact bV u
 exact k _ (by rw[m];simp)
theorem GU{f:Nat}{l:List Val}{c:Wl}(h:rWl l=A c)(b:∀x∈l,wfV f x):∃r,l=c.val.l++r/\wfV (f+1) c.val:=by
 obtain⟨a,k,h⟩:=cY h;obtain⟨d,m,h⟩:=fp h;subst h;obtain⟨e,n⟩:=fR k b;have g:=eU b e;obtain⟨i,o⟩:=Dm m g;refine⟨d.2,by rw[e,i];rfl,fM (λx j=>?_) ar⟩;simp only[jL,lo,or_false]at j
 rcases j with rfl|rfl|rfl
 ·exact bV n
 ·exact bV o
 exact g _ (by rw[i];simp)
theorem KX:∀(b a:Nat),a<=b->(aZ a).length<=(aZ b).length:=by
 intro b
 induction b using Nat.strongRecOn with
 |ind b d=>
  intro a e
  by_cases c:a<128
  ·rw[iS c];exact Om b
  have f:¬b<128:=Y;rw[mX c,mX f];simp only[lr];have:=d (b/128) Y (a/128) (Nat.div_le_div_right e);omega
theorem FF(a b:List Val):(encs a).length<=(encs (a++b)).length:=by rw[o5,jG];omega
theorem EU(a b:List Val):(enc (vL a)).length<=(enc (vL (a++b))).length:=by
 rw[gQ,gQ];have c:=KX (a++b).length a.length ar;have d:=FF a b;simp only[lr,jG]at*;omega
theorem rR{α:Type}{f:Nat}{r:List Val->Option α}{g:α->Val}(e:∀x,g x=vL (g x).l)(i:∀l c,r l=A c->(∀x∈l,wfV f x)->∃t,l=(g c).l++t/\wfV (f+1) (g c)):
 ∀(l:List Val) (c:List α),bL r l=A c->(∀x∈l,wfV (f+1) x)->c.length=l.length/\(encs (c.map g)).length<=(encs l).length/\∀x∈c.map g,wfV (f+1) x
 |[],c,h,d=>by
  rw[bL]at h;injection h with h
  subst h;exact⟨rfl,jq _,λx b=>by cases b⟩
 |v::l,c,h,d=>by
  rw[bL]at h
  split at h
  ·rename_i hk
   obtain⟨a,j,h⟩:=cY h;obtain⟨k,m,h⟩:=fp h;subst h;obtain⟨n,z,o⟩:=rR e i l k m (λx b=>d x (j8 _ b));obtain⟨q,B,p,-,s⟩:=nY (d v (j3 ..)) hk;obtain rfl:f=q:=Y;obtain⟨t,u,w⟩:=i v.l a j s;refine⟨by simp[n],?_,λx b=>?_⟩
   ·have y:=EU (g a).l t
    rw[<-u,<-p,<-e a]at y;simp only[jT,encs,jG];omega
   rw[jT]at b
   rcases jL.1 b with rfl|b
   ·exact w
   exact o x b
  cases h
theorem CW{f:Nat}:∀(l:List Val) (p:List Int),cR l=A p->(∀x∈l,wfV f x)->l=p.map vI
 |[],p,h,a=>by
  rw[cR]at h;injection h with h
  subst h
  rfl
 |v::l,p,h,a=>by
  rw[cR]at h
  split at h
  ·rename_i hk
   obtain⟨q,b,h⟩:=fp h;subst h;have e:=CW l q b (λx c=>a x (j8 _ c));have c:=(Ct (a v (j3 ..)) hk).1;rw[jT,<-e];exact congrArg (·::l) c
  cases h
theorem rK{a b:List Val}(c:a.length=b.length)(d:(encs a).length<=(encs b).length):(enc (vL a)).length<=(enc (vL b)).length:=by
 rw[gQ,gQ,c];simp only[lr,jG];omega
theorem N6{f:Nat}{v:Val}{c:Cmt}(h:gC v=A c)(hv:wfV (f+1+1+1) v)(hk:v.k=3):
 (enc (vL (aB c))).length<=(enc v).length/\wfV (f+1+1+1) (vL (aB c))/\c.parent.length=32/\c.confirm.length=32:=by
 obtain⟨g,eg,ad,hl,d⟩:=nY hv hk;obtain rfl:g=f+1+1:=Y;obtain⟨a,h1,h⟩:=cY h;obtain⟨b,h2,h⟩:=cY h;obtain⟨p,h3,h⟩:=cY h;obtain⟨au,h4,h⟩:=cY h;obtain⟨i,h5,h⟩:=cY h;obtain⟨C,o,h⟩:=cY h;obtain⟨m,h7,h⟩:=cY h;obtain⟨al,h8,h⟩:=cY h;obtain⟨j,h9,h⟩:=cY h;obtain⟨box,a2,h⟩:=cY h;obtain⟨k,a3,h⟩:=cY h;obtain⟨wel,a4,h⟩:=cY h;obtain⟨q,a5,h⟩:=cY h;obtain⟨r,ba,h⟩:=cY h;obtain⟨s,bb,h⟩:=fp h;subst h;obtain⟨D,i1⟩:=fR h1 d;have E:=eU d D;obtain⟨F,i2⟩:=fR h2 E;have t:=eU E F;obtain⟨u,i3⟩:=Cm h3 t;have H:=eU t u;obtain⟨K,i4⟩:=fR h4 H;have M:=eU H K;obtain⟨P,i5⟩:=tB h5 M;have Q:=eU M P;obtain⟨R,i7⟩:=tB h7 Q;have S:=eU Q R;obtain⟨U,i9⟩:=tB h9 S;have V:=eU S U;obtain⟨W,bc⟩:=tB a3 V;have w:=eU V W;obtain⟨y,bd⟩:=Cm a5 w;have X:=eU w y;obtain⟨aa,bf⟩:=fR ba X;have bg:=eU X aa;obtain⟨bh,bk⟩:=fR bb bg;obtain⟨a1,bl,bm⟩:=rR (g:=Chg.val) (λ_=>rfl) (λl c e d=>I9 e d) i.1 C o i5;obtain⟨b1,b2,b3⟩:=rR (g:=Bx.val) (λ_=>rfl) (λl c e d=>Nq e d) j.1 box a2 i9;obtain⟨c1,c2,c3⟩:=rR (g:=Wl.val) (λ_=>rfl) (λl c e d=>GU e d) k.1 wel a4 bc;have ep:=CW m.1 al h8 i7;have l:v.l=[vI a.1,vI b.1,vT p.1,vI au.1,vL i.1,vL m.1,vL j.1,vL k.1,vT q.1,vI r.1,vI s.1]++s.2:=by
  rw[D,F,u,K,P,R,U,W,y,aa,bh];rfl
 have m1:vL i.1∈v.l:=by rw[l];simp
 have m2:vL m.1∈v.l:=by rw[l];simp
 have m3:vL j.1∈v.l:=by rw[l];simp
 have m4:vL k.1∈v.l:=by rw[l];simp
 have l1:=rK (a:=C.map Chg.val) (b:=i.1) (by simpa using a1) bl;have l2:=rK (a:=box.map Bx.val) (b:=j.1) (by simpa using b1) b2;have l3:=rK (a:=wel.map Wl.val) (b:=k.1) (by simpa using c1) c2;have z:∀{n:List Val} {B:List Val},n.length=B.length->(∀x∈n,wfV (f+1) x)->vL B∈v.l->wfV (f+1+1) (vL n):=by
  intro n B bn e hm;obtain⟨g,eg,-,o,-⟩:=nY (d _ hm) rfl;unfold vL;rw[wfV];exact .inr (.inr ⟨rfl,rfl,rfl,by rw[bn];exact o,e⟩)
 refine⟨?_,?_,i3,bd⟩
 ·have k1:=EU [vI a.1,vI b.1,vT p.1,vI au.1,vL i.1,vL m.1,vL j.1,vL k.1,vT q.1,vI r.1,vI s.1] s.2
  rw[<-l,<-ad]at k1;refine jw (rK (b:=[vI a.1,vI b.1,vT p.1,vI au.1,vL i.1,vL m.1,vL j.1,vL k.1,vT q.1,vI r.1,vI s.1]) rfl ?_) k1;simp only[aB,encs,jG,List.length_nil];rw[<-ep];omega
 unfold vL;rw[wfV];refine .inr (.inr ⟨rfl,rfl,rfl,by simp[aB],λx e=>?_⟩);simp only[aB,jL,lo,or_false]at e
 rcases e with rfl|rfl|rfl|rfl|rfl|rfl|rfl|rfl|rfl|rfl|rfl
 ·exact bV i1
 ·exact bV i2
 ·exact t _ (by rw[u];simp)
 ·exact bV i4
 ·exact z (by simpa using a1) (λx e=>bm x e) m1
 ·rw[<-ep];exact d _ m2
 ·exact z (by simpa using b1) (λx e=>b3 x e) m3
 ·exact z (by simpa using c1) (λx e=>c3 x e) m4
 ·exact w _ (by rw[y];simp)
 ·exact bV bf
 exact bV bk
theorem uS:∀(f i:Nat) (l:LBy) (r:Nat×LBy),i+f=9->bP f i l=A r->l=aZ r.1++r.2/\(0<i->0<r.1)
 |f,i,[],r,_,h=>by cases f<;>simp[bP]at h
 |0,i,b::l,r,d,h=>by
  simp only[bP]at h
  split at h
  ·rename_i c
   split at h
   ·injection h with h
    rw[<-h];refine⟨?_,λe=>?_⟩
    ·rw[iS (by assumption)];simp
    have:b≠0#8:=c.1.resolve_left Y
    rcases qh b.toNat with a|a
    ·exact absurd (qi a) this
    exact a
   cases h
  cases h
 |f+1,i,b::l,r,d,h=>by
  simp only[bP]at h
  split at h
  ·rename_i c
   split at h
   ·injection h with h
    rw[<-h];refine⟨?_,λe=>?_⟩
    ·rw[iS (by assumption)];simp
    have:b≠0#8:=c.1.resolve_left Y
    rcases qh b.toNat with a|a
    ·exact absurd (qi a) this
    exact a
   rename_i j;obtain⟨q,a,h⟩:=fp h;subst h;obtain⟨e,g⟩:=uS f (i+1) l q Y a;have k:=g Y;have m:b.toNat<256:=b.isLt;refine⟨?_,λ_=>by show 0<b.toNat%128+128*q.1;omega⟩;show b::l=aZ (b.toNat%128+128*q.1)++q.2;rw[mX Y,show(b.toNat%128+128*q.1)/128=q.1 by omega,show(b.toNat%128+128*q.1)%128+128=b.toNat by omega];rw[show qj 8 b.toNat=b from by simp,e]
   rfl
  cases h
theorem D9{l:LBy}{r:Nat×LBy}(h:dX l=A r):l=aZ r.1++r.2/\r.1<=r.2.length:=by
 unfold dX at h;obtain⟨q,a,h⟩:=cY h
 split at h
 ·injection h with h;subst h
  exact⟨(uS 9 0 l q rfl a).1,by assumption⟩
 cases h
theorem Cb{g:LBy->Option (Val×LBy)}{W:Val->Prop}:∀(n:Nat) (a:Nat),(∀l r,l.length<=a->g l=A r->l=enc r.1++r.2/\W r.1)->∀(l:LBy) (q:List Val×LBy),l.length<=a->dH g n l=A q->l=encs q.1++q.2/\q.1.length=n/\∀x∈q.1,W x
 |0,a,c,l,q,d,h=>by
  rw[dH]at h;injection h with h
  subst h;exact⟨rfl,rfl,λx b=>by cases b⟩
 |n+1,a,c,l,q,d,h=>by
  rw[dH]at h;obtain⟨r,f,h⟩:=cY h;obtain⟨p,i,h⟩:=fp h;subst h;obtain⟨e,j⟩:=c l r d f;obtain⟨k,m,o⟩:=Cb n a c r.2 p (by rw[e,jG]at d;omega) i;refine⟨by rw[e,k];simp[encs],by simp[m],λx b=>?_⟩
  rcases jL.1 b with rfl|b
  ·exact j
  exact o x b
theorem OY(a:Nat):eW (fK a)=a:=by
 unfold eW fK
 by_cases h:a%2=0
 ·rw[if_pos h,if_pos Y];omega
 rw[if_neg h,if_neg Y];omega
theorem Ls{a:Nat}(h:a<18446744073709551616):IR (fK a):=by
 unfold fK IR
 split<;>omega
theorem Al:∀(f:Nat) (l:LBy) (r:Val×LBy),l.length<=1000000->bY f l=A r->l=enc r.1++r.2/\wfV f r.1
 |f,[],r,_,h=>by rw[show bY f []=ii by cases f<;>rfl]at h;cases h
 |f,b::l,r,c,h=>by
  by_cases g:b=1#8
  ·subst g
   rw[show bY f (1#8::l)=(bP 9 0 l).map λr=>(.mk 1 (fK r.1) emS [],r.2) by cases f<;>rfl]at h;obtain⟨q,a,h⟩:=fp h;subst h;have e:=(uS 9 0 l q rfl a).1;refine⟨?_,bV (Ls (zW a))⟩;show 1#8::l=enc (.mk 1 (fK q.1) emS [])++q.2;rw[enc,if_pos rfl,OY,e]
   rfl
  by_cases a:b=2#8
  ·subst a
   rw[show bY f (2#8::l)=(dX l).map λr=>(.mk 2 0 (ofB (r.2.take r.1)) [],r.2.drop r.1) by cases f<;>rfl]at h;obtain⟨q,d,h⟩:=fp h;subst h;obtain⟨e,k⟩:=D9 d;have m:(ofB (q.2.take q.1)).size=q.1:=by rw[tR,jU];omega
   have i:q.2.length<=l.length:=by rw[e,jG];omega
   have j:l.length<=1000000:=by simp at c;omega
   refine⟨?_,?_⟩
   ·show 2#8::l=enc (.mk 2 0 (ofB (q.2.take q.1)) [])++q.2.drop q.1
    rw[enc,if_neg L,if_pos rfl,m,ng,qk,oo,ql];exact congrArg _ e
   show wfV f (vT (q.2.take q.1));exact nE (by rw[jU];omega)
  by_cases d:b=3#8
  ·subst d
   cases f with
   |zero=>rw[show bY 0 (3#8::l)=ii from rfl]at h;cases h
   |succ f=>
    rw[show bY (f+1) (3#8::l)=(dX l).bind λr=>(dH (bY f) r.1 r.2).map λq=>(.mk 3 0 emS q.1,q.2)from rfl]at h;obtain⟨q,m,h⟩:=cY h;obtain⟨p,n,h⟩:=fp h;subst h;obtain⟨e,k⟩:=D9 m;have j:l.length<=1000000:=by simp at c;omega
    have i:q.2.length<=1000000:=by rw[e,jG]at j;omega
    obtain⟨o,s,t⟩:=Cb (W:=wfV f) q.1 1000000 (λl r c h=>Al f l r c h) q.2 p i n;refine⟨?_,?_⟩
    ·show 3#8::l=enc (vL p.1)++p.2
     rw[gQ,qk,oo,s,<-o,<-e]
    show wfV (f+1) (vL p.1);exact fM t Y
  rw[show bY f (b::l)=ii by cases f<;>simp only[bY,if_neg g,if_neg a,if_neg d]]at h;cases h
theorem zN{l:LBy}{v:Val}(a:l.length<=1000000)(h:dec l=A v):l=enc v/\wfV 16 v:=by
 unfold dec at h;obtain⟨r,b,h⟩:=cY h
 split at h
 ·rename_i c
  injection h with h
  obtain⟨e,d⟩:=Al 16 l r a b;rw[c,List.append_nil]at e;rw[<-h];exact⟨e,d⟩
 cases h
theorem NU{l:LBy}{v:Val}{c:Cmt}(p:l.length<=800000)(h:dec l=A v)(g:gC v=A c):dC (aB c)/\c.parent.length=32/\c.confirm.length=32:=by
 obtain⟨e,d⟩:=zN Y h;have hk:v.k=3:=by
  obtain⟨a,m,-⟩:=cY g;obtain⟨q,o,-⟩:=fp m;obtain⟨i,-⟩:=kX o;obtain⟨k,n,s,j⟩:=v;rw[wfV]at d
  rcases d with⟨-,-,-,-,b⟩|⟨-,-,-,b⟩|⟨b,-⟩
  ·rw[show j=q.1::q.2 from i]at b;cases b
  ·rw[show j=q.1::q.2 from i]at b;cases b
  exact b
 obtain⟨a,b,i,j⟩:=N6 (f:=13) g d hk;exact⟨⟨b,by rw[<-e]at a;omega⟩,i,j⟩
structure wA(c:Cmt):Prop where
 box:∀b∈c.box,b.body.length<=200
 wel:∀b∈c.wel,b.body.length<=200
 nchg:c.chg.length<=10
 npath:c.path.length<=12
 nbox:c.box.length<=40
 nwel:c.wel.length<=10
structure tQ(c:Cmt):Prop where
 ints:IR c.folder/\IR c.epoch/\IR c.author/\IR c.r/\IR c.s
 chg:∀x∈c.chg,IR x.k/\IR x.d/\IR x.p/\IR x.v/\IR x.c
 path:∀x∈c.path,IR x
 box:∀b∈c.box,IR b.node/\IR b.lev/\IR b.u
 wel:∀b∈c.wel,IR b.dev/\IR b.u
theorem KW{c:Cmt}(h:wA c)(a:tQ c)(e:c.parent.length=32)(f:c.confirm.length=32):dx c where
 ints:=a.ints
 plen:=e
 clen:=f
 chg:=⟨by have:=h.nchg;omega,a.chg⟩
 path:=⟨h.npath,a.path⟩
 box:=⟨by have:=h.nbox;omega,λb d=>⟨(a.box b d).1,(a.box b d).2.1,(a.box b d).2.2,h.box b d⟩⟩
 wel:=⟨by have:=h.nwel;omega,λb d=>⟨(a.wel b d).1,(a.wel b d).2,h.wel b d⟩⟩
def cO(l:List Mem)(d:Int):Option Mem:=l.find? λm=>m.dev==d
def fX(l:List Chg)(d:Int):Option Chg:=l.find? λx=>x.d==d
theorem vP{α:Type}(f:α->Int)(d:Int):∀(l:List α),(l.map f).Nodup->∀m,(l.find? λm=>f m==d)=A m↔m∈l/\f m=d
 |[],_,m=>by simp
 |x::l,h,m=>by
  rw[jT,List.nodup_cons]at h;rw[List.find?_cons]
  by_cases e:f x=d
  ·simp only[e,BEq.rfl,Option.some.injEq]
   constructor
   ·rintro rfl;exact⟨j3 ..,e⟩
   rintro⟨b,a⟩
   rcases jL.1 b with rfl|c
   ·rfl
   exact absurd (j9.2 ⟨m,c,by rw[a,e]⟩) h.1
  rw[beq_eq_false_iff_ne.2 e,vP f d l h.2 m]
  constructor
  ·rintro⟨b,a⟩;exact⟨j8 _ b,a⟩
  rintro⟨b,a⟩
  rcases jL.1 b with rfl|c
  ·exact absurd a e
  exact⟨c,a⟩
theorem nz{l:List Mem}(h:(l.map Mem.dev).Nodup)(d:Int)(m:Mem):cO l d=A m↔m∈l/\m.dev=d:=vP Mem.dev d l h m
theorem sE{l:List Chg}(h:(l.map Chg.d).Nodup)(d:Int)(x:Chg):fX l d=A x↔x∈l/\x.d=d:=vP Chg.d d l h x
theorem I3{α:Type}{a b:Option α}(h:∀x,a=A x↔b=A x):a=b:=by
 cases a with
 |none=>cases b with
  |none=>rfl
  |some y=>exact absurd ((h y).2 rfl) ar
 |some x=>exact((h x).1 rfl).symm
theorem AI{l:List Mem}{d:Int}:(cO l d).isSome=cr l d:=by
 unfold cO cr;rw[Bool.eq_iff_iff,List.find?_isSome,List.any_eq_true]
theorem uA{g:Grp}{c:Cmt}(h:fS g c)(m:Mem):m∈(bX g c).mem↔(m∈g.mem/\∀x∈c.chg,x.d≠m.dev)\/∃x∈c.chg,x.k≠2/\m=⟨x.d,c.epoch,x.v⟩:=by
 have a:(ee (eF g.mem c.chg c.epoch)).Perm (eF g.mem c.chg c.epoch):=List.mergeSort_perm _ _;exact a.mem_iff.trans (pF m)
theorem tX{g:Grp}{c:Cmt}(h:fS g c):((bX g c).mem.map Mem.dev).Nodup:=nZ (vq h)
theorem Kk{g:Grp}{c:Cmt}(h:fS g c){d:Int}(j:fX c.chg d=ii):cO (bX g c).mem d=cO g.mem d:=by
 have i:∀x∈c.chg,x.d≠d:=λx f e=>by
  have:=(sE h.form.once d x).2 ⟨f,e⟩;rw[j]at this;cases this
 refine I3 λm=>?_
 rw[nz (tX h),nz (nZ h.val),uA h]
 constructor
 ·rintro⟨a|⟨x,a,-,rfl⟩,b⟩
  ·exact⟨a.1,b⟩
  exact absurd b (i x a)
 rintro⟨a,b⟩;exact⟨.inl ⟨a,λx f e=>i x f (e.trans b)⟩,b⟩
theorem OC{g:Grp}{c:Cmt}(h:fS g c){d:Int}{y:Chg}(b:fX c.chg d=A y)(hk:y.k=2):(cO g.mem d).isSome=true/\cO (bX g c).mem d=ii:=by
 obtain⟨f,rfl⟩:=(sE h.form.once d y).1 b;refine⟨by rw[AI,(h.poss.each y f).1,hk];rfl,?_⟩
 cases e:cO (bX g c).mem y.d with
 |none=>rfl
 |some m=>
  obtain⟨j,i⟩:=(nz (tX h) _ _).1 e
  rcases(uA h m).1 j with⟨-,a⟩|⟨x,a,k,rfl⟩
  ·exact absurd i.symm (a y f)
  have:=(sE h.form.once _ x).2 ⟨a,i⟩;rw[b]at this;injection this with this
  exact absurd (by rw[<-this];exact hk) k
theorem Ks{g:Grp}{c:Cmt}(h:fS g c){d:Int}{y:Chg}(b:fX c.chg d=A y)(hk:y.k≠2):cO (bX g c).mem d=A ⟨d,c.epoch,y.v⟩/\(cO g.mem d).isSome= !(y.k==1):=by
 obtain⟨a,rfl⟩:=(sE h.form.once d y).1 b;refine⟨(nz (tX h) _ _).2 ⟨(uA h _).2 (.inr ⟨y,a,hk,rfl⟩),rfl⟩,?_⟩;rw[AI,(h.poss.each y a).1]
 by_cases e:y.k=1<;>simp[e]
def gd(l:List Mem)(n:Nat):Nat:=((ki n).filter λd=>(cO l (d:Nat)).isSome).length
theorem I7(l:List Mem)(n:Nat):gd l (n+1)=gd l n+if(cO l (n:Nat)).isSome then 1 else 0:=by
 unfold gd;rw[List.range_succ,List.filter_append,jG,List.filter_cons,List.filter_nil]
 split<;>rfl
theorem zD(l:List Mem)(n:Nat):gd l n<=n:=by
 have:=List.length_filter_le (λd:Nat=>(cO l (d:Nat)).isSome) (ki n)
 rwa [List.length_range]at this
theorem zu{g:Grp}(h:co g):gd g.mem 512=g.mem.length:=by
 have c:=mi g.tree;rw[<-h.dev]at c;have e:(((ki 512).filter λd=>(cO g.mem (d:Nat)).isSome).map λd:Nat=>(d:Int))=g.mem.map Mem.dev:=by
  refine tn ?_ c λx=>?_
  ·refine List.pairwise_map.2 ((List.Pairwise.filter _ List.pairwise_lt_range).imp λh=>?_)
   omega
  constructor
  ·intro a
   obtain⟨d,f,rfl⟩:=j9.1 a;obtain⟨-,i⟩:=qm.1 f;obtain⟨m,b⟩:=ow.1 i;obtain⟨j,k⟩:=(nz (nZ h) _ _).1 b;exact j9.2 ⟨m,j,k⟩
  intro a;have d:0<=x/\x<512:=sT (by rw[<-h.dev];exact a);obtain⟨m,b,rfl⟩:=j9.1 a;refine j9.2 ⟨m.dev.toNat,qm.2 ⟨List.mem_range.2 Y,?_⟩,by omega⟩;rw[show((m.dev.toNat:Nat):Int)=m.dev by omega,(nz (nZ h) _ m).2 ⟨b,rfl⟩]
  rfl
 have a:=congrArg List.length e;rw[jk,jk]at a;exact a
theorem wN{g:Grp}{z:Cmt}(b:co g)(h:onB g z=false):dc g z=220:=by
 unfold dc;rw[if_neg (by rw[sG.2 b];decide)]
 rcases tP z with⟨-,a⟩|⟨-,a⟩
 ·rw[a,if_neg L,if_pos h]
 rw[a,if_pos L]
theorem Hw{g:Grp}{c:Cmt}(h:fS g c){f:Int}(a:f≠c.folder):onB g {c with folder:=f}=false:=by
 unfold onB;have:(f==g.folder)=false:=by rw[beq_eq_false_iff_ne];rw[<-h.fol];exact a
 rw[this];rfl
theorem GF{g:Grp}{c:Cmt}(h:fS g c){f:Int}(a:f≠c.epoch):onB g {c with epoch:=f}=false:=by
 unfold onB;have:(f==g.epoch+1)=false:=by rw[beq_eq_false_iff_ne];rw[<-h.ep];exact a
 show((_ &&(f==g.epoch+1))&&_)=false;rw[this,qn,Bool.false_and]
theorem L5{g:Grp}{c:Cmt}(h:fS g c){p:LBy}(a:p≠c.parent):onB g {c with parent:=p}=false:=by
 unfold onB;show(_ &&decide (p=g.last))=false;rw[decide_eq_false (by rw[<-h.par];exact a),qn]
theorem aY{a:Act}{o:Oper}{x:j6}{c:Array jc}{b:Nat}{f:je}{e t:jy}{d:TypeDesc}(g:jd.underlying e=A d)(i:d.isRow=true)(j:(jd.info? e).map (·.size)=A c.size)(k:o.op=.load e x)(m:a.eval x=jN (A ⟨b,0,ii⟩))(n:f.heap[b]?=A (ic c t (0,0))):
 (j7 a.eval o).run jd f=.ok (.value (jb c)) f:=by
 have h:=po (P:=jd) o a e x k b 0 m c.toList _ (te (t:=t) (l:=c.toList) (by simpa using n)) g i (by rw[Array.length_toList];exact j)
 simpa using h
theorem nU{P:Program}{fn:Func}{p q j:Tmp}{c f:jy}(h:fn.results= #[.cell p c,.cell q f,.tmp j])(tmps:Array jc)(w:je)(g k:Nat)(t m:jy)(cs i:Array jc)(fr n:Nat×Nat)(d l:TypeDesc)
 (o:tmps.getD p undef=jN (A ⟨g,0,ii⟩)) (r:tmps.getD q undef=jN (A ⟨k,0,ii⟩)) (s:w.heap[g]?=A (ic cs t fr)) (u:w.heap[k]?=A (ic i m n))
 (x:P.underlying c=A d) (y:(match d with| .struct _ | .array _ _=>true|_=>false)=true) (z:(P.info? c).map (·.size)=A cs.size)
 (B:P.underlying f=A l) (C:(match l with| .struct _ | .array _ _=>true|_=>false)=true) (D:(P.info? f).map (·.size)=A i.size):
 (results fn tmps).run P w=.ok (jv #[jb cs,jb i,tmps.getD j undef]) w:=by
 have e:(results fn tmps).run P w=((asAddr (tmps.getD p undef)).run P w).andThen λa E=>((loadVar c a).run P E).andThen λv F=>((asAddr (tmps.getD q undef)).run P F).andThen λb H=>((loadVar f b).run P H).andThen λK M=>.ok (jv #[v,K,tmps.getD j undef]) M:=by
  simp only[results,h];simp[Sem.run_bind,Result.andThen]
 rw[e,o];simp only[asAddr,Sem.run_pure,Result.andThen_ok,run_loadVar_row w g t c cs fr d s x y z,r,run_loadVar_row w k m f i n l u B C D]
def dP:Cmt:=⟨0,0,dj,0,[],[],[],[],dj,0,0⟩
def fk:CQ:=⟨T ii 0 0,T ii 0 0,T ii 0 0,T ii 0 0⟩
theorem dy:dj.length=32:=by simp[dj]
theorem Iq(f e a:Int)(b:Array jc)(d:b.size=32)(p:Option jI)(n c:Nat)(w:je):
 (Instr.build 37 #[(0,I N f),(1,I N e),(2,jb b),(3,I N a),(4,T p n c)]).run jd w=.ok (jb (#[I N f,I N e]++b++ #[I N a,T p n c,T ii 0 0,T ii 0 0,T ii 0 0]++(dj.map v8).toArray++ #[I N 0,I N 0])) w:=by
 unfold Instr.build;go_simp;rw[Dt b _ 2 32 d ar];obtain⟨l⟩:=b;simp[Tryz.zeroCells37];have g:l.length=32:=d;rw[if_neg Y,if_neg Y,j4 _ _ Y,j4 _ _ Y,g]
 rfl
theorem Ec(c:Cmt)(a b d e x:jc)(f:c.parent.length=32):(ah c ⟨a,b,d,e⟩).toArray.setIfInBounds 36 x=(ah c ⟨a,x,d,e⟩).toArray:=by
 apply lv
 rw[lw];unfold ah;have g:(c.parent.map v8).length=32:=by rw[jk];exact f
 show mb (_ ::_ ::(c.parent.map v8++_)) 36 x=_;rw[jY,jY,j4 _ _ Y,g]
 rfl
theorem uO(c:Cmt)(a b d e x:jc)(f:c.parent.length=32):(ah c ⟨a,b,d,e⟩).toArray.setIfInBounds 37 x=(ah c ⟨a,b,x,e⟩).toArray:=by
 apply lv
 rw[lw];unfold ah;have g:(c.parent.map v8).length=32:=by rw[jk];exact f
 show mb (_ ::_ ::(c.parent.map v8++_)) 37 x=_;rw[jY,jY,j4 _ _ Y,g]
 rfl
theorem vK(c:Cmt)(a b d e x:jc)(f:c.parent.length=32):(ah c ⟨a,b,d,e⟩).toArray.setIfInBounds 38 x=(ah c ⟨a,b,d,x⟩).toArray:=by
 apply lv
 rw[lw];unfold ah;have g:(c.parent.map v8).length=32:=by rw[jk];exact f
 show mb (_ ::_ ::(c.parent.map v8++_)) 38 x=_;rw[jY,jY,j4 _ _ Y,g]
 rfl
theorem Og:(jd.info? 3).map (λi=>(i.zero,i.size,i.bytes))=A (A (I N 0),1,8):=by kernel_rfl
theorem O5:(jd.info? 76).map (λi=>(i.zero,i.size,i.bytes))=A (A (jb #[I N 0,I N 0,T ii 0 0]),3,40):=by kernel_rfl
theorem EO{w:je}{o:Oper}{a:Act}{K:Act->je->Prop}{e:Exit->Act->je->Prop}(s x:j6)
 (f:o.op=.call {callee:=.builtin .append,args:=#[s,x],argTypes:=#[31,31]})
 (B:Nat) (v:jc) (n:Nat) (xs:List jc) (g:a.eval s=v) (i:w.ownsRow B 3 1 v n xs) (b:jc) (m:Nat) (c:List jc) (j:a.eval x=b) (k:bZ w b 1 m c) (l:∀b∈c,b.oneCell'=true)
 (E:n+m<=4000000) (p:B<=w.heap.size) (h:∀d w',aW B 3 1 w w' v d (n+m) (xs++c)->K (a.put o.dst d) w'):o.wp jd a w K e:=by
 obtain⟨q,r,t,u,y⟩:=lE Og;exact lT s x 31 f B 3 q _ 1 8 underlying31 r t u y rfl L v n xs g i b m c j k l (by unfold jJ;omega) Y p
  λd w' z C D=>h d w' (lD z C D)
theorem Bo{w:je}{o:Oper}{a:Act}{K:Act->je->Prop}{e:Exit->Act->je->Prop}(s x:j6)
 (f:o.op=.call {callee:=.builtin .append,args:=#[s,x],argTypes:=#[32,32]})
 (B:Nat) (v:jc) (n:Nat) (xs:List jc) (g:a.eval s=v) (i:w.ownsRow B 74 4 v n xs) (b:jc) (m:Nat) (c:List jc) (j:a.eval x=b) (k:bZ w b 4 m c) (l:∀b∈c,b.oneCell'=true)
 (E:n+m<=2900000) (p:B<=w.heap.size) (h:∀d w',aW B 74 4 w w' v d (n+m) (xs++c)->K (a.put o.dst d) w'):o.wp jd a w K e:=by
 obtain⟨q,r,t,u,y⟩:=lE Eu;exact lT s x 32 f B 74 q _ 4 48 underlying32 r t u y rfl L v n xs g i b m c j k l (by unfold jJ;omega) Y p
  λd w' z C D=>h d w' (lD z C D)
theorem Av{w:je}{o:Oper}{a:Act}{K:Act->je->Prop}{e:Exit->Act->je->Prop}(s x:j6)
 (f:o.op=.call {callee:=.builtin .append,args:=#[s,x],argTypes:=#[33,33]})
 (B:Nat) (v:jc) (n:Nat) (xs:List jc) (g:a.eval s=v) (i:w.ownsRow B 76 3 v n xs) (b:jc) (m:Nat) (c:List jc) (j:a.eval x=b) (k:bZ w b 3 m c) (l:∀b∈c,b.oneCell'=true)
 (E:n+m<=2900000) (p:B<=w.heap.size) (h:∀d w',aW B 76 3 w w' v d (n+m) (xs++c)->K (a.put o.dst d) w'):o.wp jd a w K e:=by
 obtain⟨q,r,t,u,y⟩:=lE O5;exact lT s x 33 f B 76 q _ 3 40 underlying33 r t u y rfl L v n xs g i b m c j k l (by unfold jJ;omega) Y p
  λd w' z C D=>h d w' (lD z C D)
theorem gX{B sz n:Nat}{e:jy}{w w':je}{v:jc}{xs:List jc}(h:w.ownsRow B e sz v n xs)(hk:∀k,B<=k->k<w.heap.size->w'.heap[k]?=w.heap[k]?):w'.ownsRow B e sz v n xs:=by
 refine⟨h.1,?_⟩
 rcases h.2 with a|⟨g,c,d,f,a,b,i⟩
 ·exact .inl a
 exact .inr ⟨g,c,d,f,a,(hk g a (jC.1 b).1).trans b,i⟩
theorem ET{w:je}{B sz n:Nat}{e:jy}{v:jc}{xs:List jc}(h:w.ownsRow B e sz v n xs)(p:0<n):∃g c d,v=T (A ⟨g,0,ii⟩) n c/\n<=c/\B<=g/\w.heap[g]?=A (ic d e (0,0))/\∀(j:Nat) b,xs[j]?=A b->d[j]?=A b:=by
 rcases h.2 with⟨rfl,q⟩|⟨g,f,i,rfl,k,l,m,r,s,o⟩
 ·omega
 refine⟨g,f,i,rfl,m,k,l,λj b a=>?_⟩;rw[<-o,List.getElem?_take]at a
 split at a
 ·simpa using a
 cases a
theorem lA(c:Cmt)(d e f g:Option jI)(h i j k l m n o:Nat):(ah c ⟨T d h l,T e i m,T f j n,T g k o⟩).toArray.all (·.oneCell')=true:=by
 rw[qo];intro b a;simp only[ah,qs,jL,ms,o4,or_false]at a
 rcases a with rfl|rfl|a|rfl|rfl|rfl|rfl|rfl|a|rfl|rfl
 ·rfl
 ·rfl
 ·exact fY _ b a
 ·rfl
 ·rfl
 ·rfl
 ·rfl
 ·rfl
 ·exact fY _ b a
 ·rfl
 rfl
theorem L9(a:LBy)(i:Nat)(b:i<10):(dp a).take (i+1)=(dp a).take i++[((aG 4 (lK (bU a i)):Nat):Int)]:=by
 rw[qt (by rw[iO];exact b)];simp[dp]
theorem La(w:je):(Instr.build 53 #[]).run jd w=.ok (jb (dj.map v8).toArray) w:=by
 unfold Instr.build;go_simp
 rfl
theorem Jb{w w':je}{v:jc}{t:List (Int×Int)}{b j:Nat}{X d:Array jc}{e:jy}(h:aT w v t)(f:w.heap[b]?=A (ic X e (0,0)))(g:w'.heap[b]?=A (ic d e (0,0)))(hk:∀k,k<w.heap.size->k≠b->w'.heap[k]?=w.heap[k]?)
 (k:∀i,i≠j->d[i]?=X[i]?) (a:∃p n c,X[j]?=A (T p n c)):aT w' v t:=by
 obtain⟨p,n,c,a⟩:=a;exact h.ints (se f g k a hk)
theorem IP(c:Cmt)(a b d f e:jc)(g:c.parent.length=32)(j:Nat)(h:j≠37):(ah c ⟨a,b,f,e⟩).toArray[j]?=(ah c ⟨a,b,d,e⟩).toArray[j]?:=by
 rw[<-uO c a b d e f g,qu (Ne.symm h)]
theorem Gh(c:Cmt)(a b d e f:jc)(g:c.parent.length=32)(j:Nat)(h:j≠38):(ah c ⟨a,b,d,f⟩).toArray[j]?=(ah c ⟨a,b,d,e⟩).toArray[j]?:=by
 rw[<-vK c a b d e f g,qu (Ne.symm h)]
theorem kV(c:Cmt)(a b d e:jc)(f:c.parent.length=32)(g:c.confirm.length=32):(ah c ⟨a,b,d,e⟩).toArray[36]?=A b/\(ah c ⟨a,b,d,e⟩).toArray[37]?=A d/\(ah c ⟨a,b,d,e⟩).toArray[38]?=A e/\(ah c ⟨a,b,d,e⟩).toArray.size=73:=by
 have h:=eE c ⟨a,b,d,e⟩ f g;exact⟨by simpa using h.2.2.2.2.1,by simpa using h.2.2.2.2.2.1,by simpa using h.2.2.2.2.2.2.1,by rw[jp,dT _ _ f g]⟩
structure cg{α:Type}(M R:Nat)(t e:jy)(k:Nat)(f:α->jc->List jc)(body:α->LBy)(X:jc->Array jc)(w0 wr:je)(n:Nat)(a:jc)(l:List α)(b:List jc):Prop where
 row:df M R t e k X w0 wr n a (cG f l b)
 kids:bR (λg=>M<=g/\g<wr.heap.size/\a.ownBlock≠A g) wr (l.map body) b
theorem cg.later{α:Type}{M R:Nat}{t e:jy}{k:Nat}{f:α->jc->List jc}{body:α->LBy}{X:jc->Array jc}{w0 wr c:je}{n:Nat}{d:jc}{l:List α}{i:List jc}(h:cg M R t e k f body X w0 wr n d l i)(j:R<M)(b:jf wr wr c):cg M R t e k f body X w0 c n d l i:=
 ⟨h.row.later j b,(h.kids.keep (λg a=>b.block g a.2.1)).mono λg a=>⟨a.1,jm a.2.1 b.size,a.2.2⟩⟩
theorem cg.push{α:Type}{M R i:Nat}{t e:jy}{k:Nat}{f:α->jc->List jc}{body:α->LBy}{X:jc->Array jc}{w0 b j:je}{n m:Nat}{o a p:jc}{l:List α}{c:List jc}{x:α}(h:cg M R t e k f body X w0 b n o l c)(u:R<M)
 (v:ap (λg=>M<=g/\g<b.heap.size/\o.ownBlock≠A g) b p 1 (body x).length ((body x).map v8)) (q:aW M e k b j o a m (cG f l c++f x p)) (w:(X o).setIfInBounds i a=X a):
 cg M R t e k f body X w0 (j.setCell ⟨R,i,ii⟩ a) m a (l++[x]) (c++[p]):=by
 have y:c.length=l.length:=by have:=h.kids.len;rwa [jk]at this
 have z:cG f (l++[x]) (c++[p])=cG f l c++f x p:=by rw[Au f l [x] c [p] y];simp[cG]
 have B:(j.setCell ⟨R,i,ii⟩ a).heap.size=j.heap.size:=ln _ _ _;have r:∀g,(M<=g/\g<b.heap.size/\o.ownBlock≠A g)->(j.setCell ⟨R,i,ii⟩ a).heap[g]?=b.heap[g]?:=λg d=>
  (fu _ Y).trans (q.grown.block g d.2.1 (λe=>d.2.2 e.symm))
 have s:∀g,(M<=g/\g<b.heap.size/\o.ownBlock≠A g)->(M<=g/\g<(j.setCell ⟨R,i,ii⟩ a).heap.size/\a.ownBlock≠A g):=λg d=>
  ⟨d.1,by rw[B];exact jm d.2.1 q.grown.size,q.ne d.2.1 d.2.2⟩
 refine⟨?_,?_⟩
 ·rw[z];exact h.row.push u q w
 rw[j0];exact bR.snoc (ap.mono (ap.keep v r) s) ((h.kids.keep r).mono s)
theorem cg.start{α:Type}{M R:Nat}{t e:jy}{k:Nat}{f:α->jc->List jc}{body:α->LBy}{X:jc->Array jc}{w:je}(a:w.heap[R]?=A (ic (X (T ii 0 0)) t (0,0)))(b:M<=w.heap.size):cg M R t e k f body X w w 0 (T ii 0 0) [] []:=
 ⟨⟨a,by simpa [cG]using lm w M e k,aD.refl _ _ _,b⟩,rfl⟩
theorem cg.slice{α:Type}{M R:Nat}{t e:jy}{k:Nat}{f:α->jc->List jc}{body:α->LBy}{X:jc->Array jc}{w0 wr:je}{n:Nat}{c:jc}{l:List α}{a:List jc}(h:cg M R t e k f body X w0 wr n c l a)(i:n=l.length){D:Nat->Prop}(d:∀g,M<=g->g<wr.heap.size->D g):
 ∃a,ap D wr c k l.length (cG f l a)/\bR D wr (l.map body) a:=
 ⟨a,ap.of_own (by rw[<-i];exact h.row.own) (λg b=>by have:=h.row.own.lt g b;exact d g this.1 this.2),h.kids.mono λg b=>d g b.1 b.2.1⟩
theorem bytes_of_row{W:je}{g o:Nat}{b:Array jc}{t:jy}{l:LBy}{n:Nat}(c:W.heap[g]?=A (ic b t (0,0)))(d:∀(j:Nat) a,(l.map v8)[j]?=A a->b[o+j]?=A a)(e:l.length=n):BytesAt W (T (A ⟨g,o,ii⟩) n n) l:=by
 subst e;exact ap.bytes (D:=λ_=>True) ⟨by simp,A ⟨g,o,ii⟩,l.length,rfl,jq _,(λh=>by cases h),λ_=>⟨g,o,rfl,trivial,λj a f=>cell_of c (d j a f)⟩⟩
theorem CS{W:je}{b i:Nat}{cs:Array jc}{t:jy}{x y:jc}(a:W.heap[b]?=A (ic cs t (0,0))):
 (W.setCells b i [x,y]).heap[b]?=A (ic ((cs.setIfInBounds i x).setIfInBounds (i+1) y) t (0,0))/\∀k,k≠b->(W.setCells b i [x,y]).heap[k]?=W.heap[k]?:=by
 have e:W.setCells b i [x,y]=(W.setCell ⟨b,i,ii⟩ x).setCell ⟨b,i+1,ii⟩ y:=rfl;rw[e];exact⟨iG y (iG x a),λk hk=>(fu _ hk).trans (fu _ hk)⟩
noncomputable def lz(g:Grp)(a x:Int)(b:List Chg):Int:=
 if 1099511627776<=g.epoch then 1 else if cD g a b≠0 then cD g a b else if x<1\/2305843009213688669<=x then 50 else if((aG 4 x.toNat:Nat):Int)≠dt g a b then 221 else 0
def LG(g:Grp)(a x:Int)(d:List Chg)(b init seed:LBy)(c:Int)(w:je)(e:Ending)(w':je):Prop:=
 (c=0->∃q,e=jh (jv #[jb (ah (mkC g a x.toNat d b init seed) q).toArray,jb ((fF g b init).map v8).toArray,I N 0])/\ay (λk=>w.heap.size<=k/\k<w'.heap.size) w' (mkC g a x.toNat d b init seed) q)/\
 (c≠0->e=jh (jv #[jb (ah dP fk).toArray,jb (dj.map v8).toArray,I N c]))/\jf w w w'
theorem rc{w:je}{g o:Nat}{a:Array jc}{t:jy}{xs:List jc}(b:w.heap[g]?=A (ic a t (0,0)))(c:∀(j:Nat) v,xs[j]?=A v->a[o+j]?=A v):w.rangeAt g o xs:=λj v d=>cell_of b (c j v d)
theorem D7(k:LBy)(hk:k.length=32)(n i j:Nat)(c:i<n)(v:jc)(h:((bU k i).map v8)[j]?=A v):(fA (fj k n))[i*32+j]?=A v:=by
 have d:j<32:=by
  have:=(pa.1 h).1;rw[jk,en k hk]at this;exact this
 unfold fA fj;rw[List.map_map,<-qv];have g:∀x∈ki n,((λk=>pz v8 k)∘bU k) x=(bU k x).map v8:=λ_ _=>rfl
 have e:∀(l:List Nat) (i:Nat) (x:Nat),l[i]?=A x->((l.map ((λk=>pz v8 k)∘bU k)).flatten)[i*32+j]?=((bU k x).map v8)[j]?:=by
  intro l
  induction l with
  |nil=>intro i x a;simp at a
  |cons y l f=>
   intro i x a;rw[jT,List.flatten_cons];have b:(((λk=>pz v8 k)∘bU k) y).length=32:=by simp[en k hk]
   rcases i with _|i
   ·have:y=x:=by simpa using a
    subst this;rw[Nat.zero_mul,p6,List.getElem?_append_left (by rw[b];exact d)]
    rfl
   rw[List.getElem?_append_right (by rw[b];omega),b,show(i+1)*32+j-32=i*32+j by omega];exact f i x (by simpa using a)
 rw[qv];exact(e (ki n) i i (by simp[c])).trans h
theorem oT(p:Option jI)(n c:Nat)(w:je):jj jd 21 #[T p n c] w λe w'=>e=jh (.bool (decide (n<=10)))/\jf w w w':=by
 by_cases h:n<=10
 ·have b:=aj ((n:Int)<=10)
  have a:=O (decide_eq_true h)
  go_enter func21,ntmps21
  go_wp2_with fail
  go_ret;exact⟨by rw[a];rfl,jM _ _⟩
 have b:=ak ((n:Int)<=10);have a:=O (decide_eq_false h)
 go_enter func21,ntmps21
 go_wp2_with fail
 go_ret;exact⟨by rw[a];rfl,jM _ _⟩
theorem JO(c:Cmt)(q:CQ)(w:je)(a:ay (·<w.heap.size) w c q)(X:c.box.length<=jJ)(l4:c.wel.length<=jJ):
 jj jd 6 #[jb (ah c q).toArray] w λe w'=>(∃b,e=jh (.bool b)/\(b=true->wA c))/\jf w w w':=by
 have B:=cI.new w (q:=q) a.plen a.clen;have g:=af w (ic (ah c q).toArray 37);obtain⟨C,D,H⟩:=a.chg.form;obtain⟨pp,cp,K⟩:=a.path.form;obtain⟨pb,cb,i⟩:∃p E,q.vb=T p c.box.length E:=by obtain⟨us,h,-⟩:=a.box;exact h.form
 obtain⟨pw,cw,k⟩:∃p E,q.vw=T p c.wel.length E:=by obtain⟨us,h,-⟩:=a.wel;exact h.form
 obtain⟨-,-,-,F,d,f,n,-,-⟩:=B.at;rw[H]at F;rw[K]at d;rw[i]at f;rw[k]at n;have Uf:=O a.box;have Ta:=O a.wel;have a3:=O i;have a4:=O k;obtain⟨u,m⟩:=J c.chg.length;obtain⟨np,o⟩:=J c.path.length;obtain⟨r,v⟩:=J c.box.length;obtain⟨s,x⟩:=J c.wel.length;rw[<-m]at F;rw[<-o]at d;rw[<-v]at f X a3;rw[<-x]at n l4 a4;replace X:r<=9223372036854775807:=X;replace l4:s<=9223372036854775807:=l4;have Zf:=O m;have a5:=O o;have Zv:=O v;have Si:=O x;obtain⟨b,y⟩:=J w.heap.size;obtain⟨ba,M⟩:=J ((ah c q).toArray);rw[<-M]at g F d f n⊢;rw[<-y]at F d f n;obtain⟨W,z⟩:=J (w.alloc (ic ba 37));rw[<-z]at g F d f n;have P:=O z;have Q:=O y;have t:=O g;clear B g a H K i k m o v x y M z
 go_enter func6,ntmps6
 go_upto_region 1 with fail
 rw[<-P,<-Q];clear P Q
 go_wp2_with fail
 go_loopw [3] (λi wr=>∃k:Nat,i=I N k/\k<=r/\ih (∀x∈c.box.take k,x.body.length<=200)/\wr=W) (λi _=>r-(jl i).toNat)
 case atStart=>exact⟨0,rfl,jH _,O ar,rfl⟩
 obtain⟨k,rfl,hk,a,H⟩:=hrel;rw[H];clear H
 by_cases aa:k<r
 case pos=>
  have ad:=aj ((k:Int)<(r:Int));have al:=aj (k<r);obtain⟨x,v,K⟩:=dE (l:=c.box) (j:=k) (by rw[<-Zv];exact aa);obtain⟨us,M,P⟩:=Uf.out;obtain⟨bb,Q,R⟩:=P.at (i:=k) (b:=x.body) (by rw[j5,v];rfl);obtain⟨g,o,E,S,z⟩:=mC M (λ_ _=>rfl) v Q;rw[a3]at S;injection S with e1 e2 e3
  subst e1;subst e3;obtain⟨px,cx,rfl⟩:=R.form;have Ut:=O K;obtain⟨m,B⟩:=J x.body.length;rw[<-B]at z;have d3:W.cell? ⟨g,o+k*4+3,ii⟩=A (T px m cx):=cell_below (z 3 _ rfl) t;have HM:=O B;clear z M P Q R v K e2 B
  by_cases U:200<m
  case pos=>
   have au:=aj ((200:Int)<(m:Int));have a1:=aj (200<m);clear U
   go_wp2_with fail
   go_ret;exact⟨⟨false,rfl,λh=>by cases h⟩,t⟩
  have au:=ak ((200:Int)<(m:Int));have a1:=ak (200<m);have a2:ih (∀y∈c.box.take (k+1),y.body.length<=200):=O (λy V=>by
   rw[Ut]at V
   rcases ms.1 V with h|h
   ·exact a y h
   obtain rfl:=qw.1 h;have:=HM.out
   omega)
  clear U a
  go_wp2_with fail
  exact⟨⟨k+1,by go_num,by omega,a2,by trivial⟩,by simp only[jl];omega⟩
 have ad:=ak ((k:Int)<(r:Int));have al:=ak (k<r);obtain rfl:r=k:=Y;have TT:ih (∀x∈c.box,x.body.length<=200):=O (by have h:=a.out;rwa [Zv,mz]at h);clear a
 go_wp2_with fail
 go_loopw [4] (λi wr=>∃k:Nat,i=I N k/\k<=s/\ih (∀x∈c.wel.take k,x.body.length<=200)/\wr=W) (λi _=>s-(jl i).toNat)
 case atStart=>exact⟨0,rfl,jH _,O ar,rfl⟩
 obtain⟨k,rfl,hk,a,H⟩:=hrel;rw[H];clear H
 by_cases aa:k<s
 case pos=>
  have ad:=aj ((k:Int)<(s:Int));have al:=aj (k<s);obtain⟨x,v,K⟩:=dE (l:=c.wel) (j:=k) (by rw[<-Si];exact aa);obtain⟨us,M,P⟩:=Ta.out;obtain⟨bb,Q,R⟩:=P.at (i:=k) (b:=x.body) (by rw[j5,v];rfl);obtain⟨g,o,E,S,z⟩:=mC M (λ_ _=>rfl) v Q;rw[a4]at S;injection S with e1 e2 e3
  subst e1;subst e3;obtain⟨px,cx,rfl⟩:=R.form;have Ut:=O K;obtain⟨m,B⟩:=J x.body.length;rw[<-B]at z;have d3:W.cell? ⟨g,o+k*3+2,ii⟩=A (T px m cx):=cell_below (z 2 _ rfl) t;have HM:=O B;clear z M P Q R v K e2 B
  by_cases U:200<m
  case pos=>
   have au:=aj ((200:Int)<(m:Int));have a1:=aj (200<m);clear U
   go_wp2_with fail
   go_ret;exact⟨⟨false,rfl,λh=>by cases h⟩,t⟩
  have au:=ak ((200:Int)<(m:Int));have a1:=ak (200<m);have a2:ih (∀y∈c.wel.take (k+1),y.body.length<=200):=O (λy V=>by
   rw[Ut]at V
   rcases ms.1 V with h|h
   ·exact a y h
   obtain rfl:=qw.1 h;have:=HM.out
   omega)
  clear U a
  go_wp2_with fail
  exact⟨⟨k+1,by go_num,by omega,a2,by trivial⟩,by simp only[jl];omega⟩
 have ad:=ak ((k:Int)<(s:Int));have al:=ak (k<s);obtain rfl:s=k:=Y;have v:ih (∀x∈c.wel,x.body.length<=200):=O (by have h:=a.out;rwa [Si,mz]at h);clear a
 by_cases m:u<=10
 case neg=>
  have i:ih (decide (u<=10)=false):=O (decide_eq_false m);clear m
  go_wp2_with fail
  refine(oT C u D _).mono ?_;rintro e o ⟨rfl,a⟩;have g:=ac t a;clear a;rw[i]
  go_wp2_with fail
  go_ret;exact⟨⟨false,rfl,λh=>by cases h⟩,g⟩
 have i:ih (decide (u<=10)=true):=O (decide_eq_true m);have x:=O m;clear m
 by_cases m:np<=12
 case neg=>
  have y:=ak ((np:Int)<=12);clear m
  go_wp2_with fail
  refine(oT C u D _).mono ?_;rintro e o ⟨rfl,a⟩;have g:=ac t a;rw[i];replace d:=cell_below d a;replace f:=cell_below f a;replace n:=cell_below n a;clear a
  go_wp2_with fail
  go_ret;exact⟨⟨false,rfl,λh=>by cases h⟩,g⟩
 have y:=aj ((np:Int)<=12);have z:=O m;clear m
 by_cases m:r<=40
 case neg=>
  have B:=ak ((r:Int)<=40);clear m
  go_wp2_with fail
  refine(oT C u D _).mono ?_;rintro e o ⟨rfl,a⟩;have g:=ac t a;rw[i];replace d:=cell_below d a;replace f:=cell_below f a;replace n:=cell_below n a;clear a
  go_wp2_with fail
  go_ret;exact⟨⟨false,rfl,λh=>by cases h⟩,g⟩
 have B:=aj ((r:Int)<=40);have H:=O m;clear m
 by_cases m:s<=10
 case neg=>
  have K:=ak ((s:Int)<=10);clear m
  go_wp2_with fail
  refine(oT C u D _).mono ?_;rintro e o ⟨rfl,a⟩;have g:=ac t a;rw[i];replace d:=cell_below d a;replace f:=cell_below f a;replace n:=cell_below n a;clear a
  go_wp2_with fail
  go_ret;exact⟨⟨false,rfl,λh=>by cases h⟩,g⟩
 have K:=aj ((s:Int)<=10);have M:=O m;clear m
 go_wp2_with fail
 refine(oT C u D _).mono ?_;rintro e o ⟨rfl,a⟩;have g:=ac t a;rw[i];replace d:=cell_below d a;replace f:=cell_below f a;replace n:=cell_below n a;clear a
 go_wp2_with fail
 go_ret;exact⟨⟨true,rfl,λ_=>⟨TT,v,by rw[<-Zf];exact x,by rw[<-a5];exact z,by rw[<-Zv];exact H,by rw[<-Si];exact M⟩⟩,g⟩
theorem Gd(g:Grp)(vm vt:jc)(w:je)(h:bQ w g vm vt)(l:g.tree.length<=jJ):
 jj jd 5 #[jb (aA g vm vt).toArray] w λe w'=>(∃b,e=jh (.bool b)/\(b=true->g.mem.length<=8/\g.tree.length<=80))/\jf w w w':=by
 have a:=cV.new w (vm:=vm) (vt:=vt) h.llen;have b:=af w (ic (aA g vm vt).toArray 29);have d:=O (MH g.tree vt _ (h.tree.below b) l);obtain⟨p,c,rfl,-,-⟩:=h.mem.form;obtain⟨m,o,q,rfl⟩:=gE h.tree;obtain⟨-,-,i,r⟩:=a.at;have f:=O b;obtain⟨v,j⟩:=J ((aA g (T p g.mem.length c) (T m o q)).toArray);rw[<-j]at i r d f⊢;obtain⟨n,k⟩:=J g.mem.length;rw[<-k]at i⊢;clear a b h j k
 by_cases b:n<=8
 case neg=>
  have j:=ak ((n:Int)<=8);clear b
  go_enter func5,ntmps5
  go_wp2_with fail
  go_ret;exact⟨⟨false,rfl,λh=>by cases h⟩,f⟩
 have j:=aj ((n:Int)<=8);have k:=O b;clear b;obtain⟨s,b⟩:=J (decide (g.tree.length<=80));rw[<-b]at d;have t:=O b;clear b
 go_enter func5,ntmps5
 go_wp2_with fail
 refine d.mono ?_;rintro e x ⟨rfl,b⟩;have u:=ac f b;clear b
 go_wp2_with fail
 go_ret;exact⟨⟨s,rfl,λa=>⟨k,of_decide_eq_true (by rw[<-t];exact a)⟩⟩,u⟩
theorem sK(W:je)(g j:Nat)(cs ds:Array jc)(t:jy)(fr:Nat×Nat)(h:W.heap[g]?=A (ic cs t fr)):(W.setRow g ds).cell? ⟨g,j,ii⟩=ds[j]?:=by
 have a:=ju W g cs ds t fr h;simp[World.cell?,a]
theorem BJ{α:Type}{p:α->Bool}{l:List α}{x:α}(h:l.find? p=ii)(a:p x=false):(l++[x]).find? p=ii:=by
 rw[qa,h];simp[a]
theorem BM{α:Type}{p:α->Bool}{l:List α}{x:α}(h:l.find? p=ii)(a:p x=true):(l++[x]).find? p=A x:=by
 rw[qa,h];simp[a]
theorem Cf{α:Type}{p:α->Bool}{l:List α}{x:α}{k:Nat}(h:(l.take k).find? p=A x):l.find? p=A x:=by
 rw[<-ql k l,qa,h];rfl
theorem Bl(a:Grp)(vm vt:jc)(d:Int)(w:je)(h:bQ w a vm vt)(z:a.mem.length<=jJ):
 jj jd 8 #[jb (aA a vm vt).toArray,I N d] w λe w'=>e=jh (jv #[jb ((cO a.mem d).getD bF).cells.toArray,.bool (cO a.mem d).isSome])/\jf w w w':=by
 have m:=cV.new w (vm:=vm) (vt:=vt) h.llen;have b:=af w (ic (aA a vm vt).toArray 29);have o:=h.mem;obtain⟨p,c,rfl,-,-⟩:=h.mem.form;obtain⟨-,-,f,-⟩:=m.at;have K:=O (o.cells);obtain⟨R,q⟩:=J ((aA a (T p a.mem.length c) vt).toArray);rw[<-q]at f b⊢;obtain⟨n,i⟩:=J a.mem.length;rw[<-i]at f z K;replace z:n<=9223372036854775807:=z;have M:=O i;obtain⟨r,j⟩:=J (w.alloc (ic R 29));rw[<-j]at f b;have k:=O j;have g:=O b;have u:=O f;clear m b h q i o j f
 go_enter func8,ntmps8
 go_upto_region 1 with fail
 obtain⟨b,i⟩:=J w.heap.size;rw[<-k,<-i];have o:r.heap.size=b+1:=by rw[k,js,i]
 obtain⟨B,j⟩:=J r.heap.size;have m:=g.trans ((af r (ic #[I N 0,I N 0,I N 0] 45)).mono g.size);have q:=ji r (ic #[I N 0,I N 0,I N 0] 45);have f:=cell_below u (af r (ic #[I N 0,I N 0,I N 0] 45));have v:w.heap.size<=B:=by rw[j];exact g.size
 rw[<-j]at q;rw[<-o,<-j];rw[<-i]at f;obtain⟨s,x⟩:=J (r.alloc (ic #[I N 0,I N 0,I N 0] 45));rw[<-x]at m q f⊢;have C:=O m;have t:=O q;have P:=O v;clear j x m q i v k g u o
 go_wp2_with fail
 go_loopw [6] (λi wr=>∃k:Nat,i=I N k/\k<=n/\ih (cO (a.mem.take k) d=ii)/\wr=s) (λi _=>n-(jl i).toNat)
 case atStart=>exact⟨0,rfl,jH _,O rfl,rfl⟩
 obtain⟨k,rfl,hk,D,g⟩:=hrel;rw[g];clear g
 by_cases S:k<n
 ·have U:=aj ((k:Int)<(n:Int))
  have V:=aj (k<n);obtain⟨-,-,x⟩:=K.out;obtain⟨g,o,rfl,E⟩:=x Y;obtain⟨y,F,H⟩:=dE (l:=a.mem) (j:=k) (by rw[<-M];exact S);have m:=λi W X=>cell_below (E k y F i W X) C
  have c0:s.cell? ⟨g,o+k*3,ii⟩=A (I N y.dev):=m 0 _ rfl;have c1:s.cell? ⟨g,o+k*3+1,ii⟩=A (I N y.since):=m 1 _ rfl;have f:s.cell? ⟨g,o+k*3+2,ii⟩=A (I N y.ver):=m 2 _ rfl;obtain⟨md,u,v⟩:=y;dsimp only at c0 c1 f;have Q:=O H;clear E H F x m
  by_cases x:md=d
  case neg=>
   have m:(md==d)=false:=by simpa using x
   have E:ih (cO (a.mem.take (k+1)) d=ii):=O (by rw[Q];exact BJ D m);have F:decide (md=d)=false:=by simpa using x
   clear x
   go_wp2_with fail
   exact⟨⟨k+1,by go_num,by omega,E,by trivial⟩,by simp only[jl];omega⟩
  have E:ih (cO a.mem d=A ⟨md,u,v⟩):=O (Cf (k:=k+1) (by rw[Q];exact BM D (by simp[x])));subst x;have q:=t.out;have m:=λj=>sK s B j _ #[I N md,I N u,I N v] _ _ t.out
  have r0:=m 0;have r1:=m 1;have r2:=m 2;have F:=O (jA C P #[I N md,I N u,I N v]);clear m
  go_wp2_with (refine jg rfl λ_ H=>jn 45 _ _ rfl B #[I N md,I N u,I N v] rfl rfl 45 _ q oW rfl (by simp[jD]) (H _ _ ?_))
  refine jQ (eQ rfl _ _ B 45 #[I N md,I N u,I N v] (0,0) _ rfl (ju _ _ _ _ _ _ t.out) jZ rfl oW) rfl ⟨by rw[E];rfl,F⟩
 have U:=ak ((k:Int)<(n:Int));have V:=ak (k<n);obtain rfl:k=n:=Y;have E:ih (cO a.mem d=ii):=O (by
  have h:=D.out
  rwa [M,mz]at h)
 have q:=t.out;have m:=λj=>sK s B j _ #[I N 0,I N 0,I N 0] _ _ t.out
 have r0:=m 0;have r1:=m 1;have r2:=m 2;have F:=O (jA C P #[I N 0,I N 0,I N 0]);clear m
 go_wp2_with (refine jg rfl λ_ H=>jn 45 _ _ rfl B #[I N 0,I N 0,I N 0] rfl rfl 45 _ q oW rfl (by simp[jD]) (H _ _ ?_))
 refine jQ (eQ rfl _ _ B 45 #[I N 0,I N 0,I N 0] (0,0) _ rfl (ju _ _ _ _ _ _ t.out) jZ rfl oW) rfl ⟨by rw[E];rfl,F⟩
theorem MM(l:List Chg)(H:jc)(d:Int)(w:je)(h:EC.At w H l)(x:l.length<=jJ):
 jj jd 9 #[H,I N d] w λe w'=>e=jh (jv #[jb ((fX l d).getD pf).cells.toArray,.bool (fX l d).isSome])/\jf w w w':=by
 have b:=h;obtain⟨p,c,rfl,-,-⟩:=h.form;have K:=O (b.cells);obtain⟨n,a⟩:=J l.length;rw[<-a]at x K⊢;replace x:n<=9223372036854775807:=x;have M:=O a;clear h a b
 go_enter func9,ntmps9
 go_upto_region 1 with fail
 obtain⟨B,a⟩:=J w.heap.size;have g:=af w (ic #[I N 0,I N 0,I N 0,I N 0,I N 0] 49);have b:=ji w (ic #[I N 0,I N 0,I N 0,I N 0,I N 0] 49);have i:w.heap.size<=B:=jz a.symm;rw[<-a]at b⊢;obtain⟨f,j⟩:=J (w.alloc (ic #[I N 0,I N 0,I N 0,I N 0,I N 0] 49));rw[<-j]at g b⊢;have z:=O g;have q:=O b;have P:=O i;clear a j g b i
 go_wp2_with fail
 go_loopw [6] (λi wr=>∃k:Nat,i=I N k/\k<=n/\ih (fX (l.take k) d=ii)/\wr=f) (λi _=>n-(jl i).toNat)
 case atStart=>exact⟨0,rfl,jH _,O rfl,rfl⟩
 obtain⟨k,rfl,hk,C,a⟩:=hrel;rw[a];clear a
 by_cases R:k<n
 ·have S:=aj ((k:Int)<(n:Int))
  have U:=aj (k<n);obtain⟨-,-,v⟩:=K.out;obtain⟨g,o,rfl,D⟩:=v Y;obtain⟨y,E,F⟩:=dE (l:=l) (j:=k) (by rw[<-M];exact R);have a:=λi V W=>cell_below (D k y E i V W) z
  have X:f.cell? ⟨g,o+k*5,ii⟩=A (I N y.k):=a 0 _ rfl;have c1:f.cell? ⟨g,o+k*5+1,ii⟩=A (I N y.d):=a 1 _ rfl;have c2:f.cell? ⟨g,o+k*5+2,ii⟩=A (I N y.p):=a 2 _ rfl;have c3:f.cell? ⟨g,o+k*5+3,ii⟩=A (I N y.v):=a 3 _ rfl;have c4:f.cell? ⟨g,o+k*5+4,ii⟩=A (I N y.c):=a 4 _ rfl;obtain⟨r,m,s,t,u⟩:=y;dsimp only at X c1 c2 c3 c4;have Q:=O F;clear D F E v a
  by_cases v:m=d
  case neg=>
   have a:(m==d)=false:=by simpa using v
   have D:ih (fX (l.take (k+1)) d=ii):=O (by rw[Q];exact BJ C a);have E:decide (m=d)=false:=by simpa using v
   clear v
   go_wp2_with fail
   exact⟨⟨k+1,by go_num,by omega,D,by trivial⟩,by simp only[jl];omega⟩
  have D:ih (fX l d=A ⟨r,m,s,t,u⟩):=O (Cf (k:=k+1) (by rw[Q];exact BM C (by simp[v])));subst v;have b:=q.out;have a:=λj=>sK f B j _ #[I N r,I N m,I N s,I N t,I N u] _ _ q.out
  have r0:=a 0;have r1:=a 1;have r2:=a 2;have r3:=a 3;have r4:=a 4;have E:=O (jA z P #[I N r,I N m,I N s,I N t,I N u]);clear a
  go_wp2_with (refine jg rfl λ_ F=>jn 49 _ _ rfl B #[I N r,I N m,I N s,I N t,I N u] rfl rfl 49 _ b pJ rfl (by simp[jD]) (F _ _ ?_))
  refine jQ (eQ rfl _ _ B 49 #[I N r,I N m,I N s,I N t,I N u] (0,0) _ rfl (ju _ _ _ _ _ _ q.out) underlying49 rfl pJ) rfl ⟨by rw[D];rfl,E⟩
 have S:=ak ((k:Int)<(n:Int));have U:=ak (k<n);obtain rfl:k=n:=Y;have D:ih (fX l d=ii):=O (by
  have h:=C.out
  rwa [M,mz]at h)
 have b:=q.out;have a:=λj=>sK f B j _ #[I N 0,I N 0,I N 0,I N 0,I N 0] _ _ q.out
 have r0:=a 0;have r1:=a 1;have r2:=a 2;have r3:=a 3;have r4:=a 4;have E:=O (jA z P #[I N 0,I N 0,I N 0,I N 0,I N 0]);clear a
 go_wp2_with (refine jg rfl λ_ F=>jn 49 _ _ rfl B #[I N 0,I N 0,I N 0,I N 0,I N 0] rfl rfl 49 _ b pJ rfl (by simp[jD]) (F _ _ ?_))
 refine jQ (eQ rfl _ _ B 49 #[I N 0,I N 0,I N 0,I N 0,I N 0] (0,0) _ rfl (ju _ _ _ _ _ _ q.out) underlying49 rfl pJ) rfl ⟨by rw[D];rfl,E⟩
theorem Oa:jd.stoodInHeld 45=false:=by kernel_rfl
theorem rO(a b c:Int)(z:je):(Op.equalIn 10000 45 (jb #[I N a,I N b,I N c]) (jb #[I N a,I N b,I N c])).run jd z=.ok true z:=by
 have d:=Oa;go_simp
theorem Bb:∀w:je,(Instr.alloc 45 true (jv #[])).run jd w=.ok (jN (A ⟨w,0,ii⟩)) (w.alloc (ic #[I N 0,I N 0,I N 0] 45)):=λ_=>by kernel_rfl
theorem NZ:∀w:je,(Instr.alloc 49 true (jv #[])).run jd w=.ok (jN (A ⟨w,0,ii⟩)) (w.alloc (ic #[I N 0,I N 0,I N 0,I N 0,I N 0] 49)):=λ_=>by kernel_rfl
theorem FE(a b:BitVec 8)(h:b≠0):a^^^b≠a:=by
 intro e
 apply h
 have:a^^^(a^^^b)=a^^^a:=by rw[e]
 rwa [<-BitVec.xor_assoc,BitVec.xor_self,BitVec.zero_xor]at this
theorem Ju{l:LBy}{i:Nat}{x:BitVec 8}(h:i<l.length)(b:x≠l[i]):l.set i x≠l:=by
 intro e;have a:=congrArg (λl=>l[i]?) e;simp only[List.getElem?_set_self h,jV h]at a;injection a with a
 exact b a
theorem CR(c:Cmt)(q:CQ)(x:Int):(ah c q).toArray.setIfInBounds 0 (I N x)=(ah {c with folder:=x} q).toArray:=by
 unfold ah;rfl
theorem A6(c:Cmt)(q:CQ)(x:Int):(ah c q).toArray.setIfInBounds 1 (I N x)=(ah {c with epoch:=x} q).toArray:=by
 unfold ah;rfl
theorem set_append{α:Type}(a b:List α)(i:Nat)(x:α)(h:i<a.length):(a++b).set i x=a.set i x++b:=by
 rw[List.set_append,if_pos h]
theorem Bi(c:Cmt)(q:CQ)(i:Nat)(x:BitVec 8)(h:i<c.parent.length):(ah c q).toArray.setIfInBounds (2+i) (v8 x)=(ah {c with parent:=c.parent.set i x} q).toArray:=by
 unfold ah;rw[List.setIfInBounds_toArray,show 2+i=i+1+1 by omega,jY,jY,set_append _ _ _ _ (by rw[jk];exact h),List.map_set]
theorem ay.folder{D:Nat->Prop}{w:je}{c:Cmt}{q:CQ}(h:ay D w c q)(x:Int):ay D w {c with folder:=x} q:=⟨h.chg,h.path,h.box,h.wel,h.plen,h.clen⟩
theorem ay.epoch{D:Nat->Prop}{w:je}{c:Cmt}{q:CQ}(h:ay D w c q)(x:Int):ay D w {c with epoch:=x} q:=⟨h.chg,h.path,h.box,h.wel,h.plen,h.clen⟩
theorem ay.parent{D:Nat->Prop}{w:je}{c:Cmt}{q:CQ}(h:ay D w c q)(i:Nat)(x:BitVec 8):ay D w {c with parent:=c.parent.set i x} q:=⟨h.chg,h.path,h.box,h.wel,by rw[qx];exact h.plen,h.clen⟩
def ZGm:Array jc:=(aA eD (T ii 0 0) (T ii 0 0)).toArray
def ZCm:Array jc:=(ah dP fk).toArray
theorem JI:∀w:je,(Instr.alloc 29 true (jv #[])).run jd w=.ok (jN (A ⟨w,0,ii⟩)) (w.alloc (ic ZGm 29)):=λ_=>by kernel_rfl
theorem FK:∀w:je,(Instr.alloc 37 true (jv #[])).run jd w=.ok (jN (A ⟨w,0,ii⟩)) (w.alloc (ic ZCm 37)):=λ_=>by kernel_rfl
theorem PD:(jd.info? 29).map (·.size)=A ZGm.size:=by kernel_rfl
theorem PM:ZGm.all (·.oneCell')=true:=by kernel_rfl
theorem OB:ZGm.size=36:=by rfl
theorem Kw:ZCm.size=73:=by rfl
theorem Ny{W:je}{g:Grp}{d e:jc}(h:bQ W g d e):∃p c a n' b,d=T p g.mem.length c/\e=T a n' b:=by
 obtain⟨p,c,f,-⟩:=h.mem.form;obtain⟨a,n',b,i⟩:=gE h.tree;exact⟨p,c,a,n',b,f,i⟩
theorem Mx{g:Grp}{p b:Option jI}{n c n' d:Nat}:(aA g (T p n c) (T b n' d)).toArray.all (·.oneCell')=true:=by
 rw[qo];intro e a;simp only[aA,qs,jL,ms,o4,or_false]at a
 rcases a with rfl|rfl|a|rfl|rfl
 ·rfl
 ·rfl
 ·exact fY _ e a
 ·rfl
 rfl
theorem KS{g:Grp}{a b:jc}(h:g.last.length=32):(aA g a b).toArray.size=36:=by rw[jp,tw h]
theorem O9{D:Nat->Prop}{w:je}{c:Cmt}{q:CQ}(a:ay D w c q):(ah c q).toArray.all (·.oneCell')=true:=by
 obtain⟨i,j,b⟩:=a.chg.form;obtain⟨k,l,d⟩:=a.path.form;obtain⟨m,e,-⟩:=a.box;obtain⟨n,o,f⟩:=e.form;obtain⟨p,g,-⟩:=a.wel;obtain⟨r,s,h⟩:=g.form;obtain⟨t,u,v,x⟩:=q;subst b;subst d;subst f;subst h;exact lA ..
theorem FQ(n:Int):bits .and .i64 n 15=n%16:=by
 have a:(kl 64 15).toNat=2^4-1:=by decide
 have b:(kl 64 n&&&kl 64 15).toNat=(n%((2^64:Nat):Int)).toNat%2^4:=by
  rw[BitVec.toNat_and,BitVec.toNat_ofInt,a,Nat.and_two_pow_sub_one_eq_mod]
 show qb.wrap ((kl 64 n&&&kl 64 15).toNat:Nat)=n%16;rw[b,km];omega
theorem NM(n:Int):∃b:Nat,1<=b/\b<=16/\wrap64 (1+bits .and .i64 n 15)=(b:Int):=by
 refine⟨(1+n%16).toNat,by omega,by omega,?_⟩;rw[FQ];unfold wrap64;omega
theorem Ew(x:Int)(b:Nat)(a:1<=b)(c:b<=16):∃y,qb.wrap (x+(b:Int))=y/\wrap64 (x+(b:Int))=y/\IR y/\y≠x:=by
 refine⟨_,rfl,?_,?_,?_⟩
 ·unfold wrap64;rw[km]
 ·rw[km];unfold IR;omega
 rw[km];omega
theorem FM(x:BitVec 8)(b:Nat)(a:1<=b)(c:b<=16):∃y:BitVec 8,y≠x/\bits .xor .u8 (x.toNat:Int) (b:Int)=(y.toNat:Int):=by
 refine⟨x^^^qj 8 b,FE _ _ ?_,?_⟩
 ·intro e
  have:=congrArg BitVec.toNat e;simp at this;omega
 rw[u8_xor_nat _ _ x.isLt Y,BitVec.toNat_xor,BitVec.toNat_ofNat,Nat.mod_eq_of_lt (show b<2^8 by omega)]
theorem dx.folder{c:Cmt}(h:dx c){x:Int}(a:IR x):dx {c with folder:=x}:=⟨⟨a,h.ints.2⟩,h.plen,h.clen,h.chg,h.path,h.box,h.wel⟩
theorem dx.epoch{c:Cmt}(h:dx c){x:Int}(a:IR x):dx {c with epoch:=x}:=⟨⟨h.ints.1,a,h.ints.2.2⟩,h.plen,h.clen,h.chg,h.path,h.box,h.wel⟩
theorem dx.parent{c:Cmt}(h:dx c)(i:Nat)(x:BitVec 8):dx {c with parent:=c.parent.set i x}:=⟨h.ints,by rw[qx];exact h.plen,h.clen,h.chg,h.path,h.box,h.wel⟩
def tv(g x:Grp)(c:Cmt)(d:Int):Prop:=match fX c.chg d with
 |none=>cO x.mem d=cO g.mem d
 |some y=>if y.k=2 then(cO g.mem d).isSome=true/\cO x.mem d=ii else cO x.mem d=A ⟨d,c.epoch,y.v⟩/\(cO g.mem d).isSome= !(y.k==1)
theorem Ij{g:Grp}{c:Cmt}(h:fS g c)(d:Int):tv g (bX g c) c d:=by
 unfold tv
 cases e:fX c.chg d with
 |none=>exact Kk h e
 |some y=>
  dsimp only
  by_cases hk:y.k=2
  ·rw[if_pos hk];exact OC h e hk
  rw[if_neg hk];exact Ks h e hk
theorem Gj(bv:je->Prop)(r:∀a b,bv a->jf a a b->bv b)(V:∀a,bv a->cF a)(X:(∀W,bv W->jj jd 4 #[] W λe w'=>e=jh (.bool true)/\jf W W w'))
 (s:(∀(g:Grp) (vm vt:jc) (c:Cmt) (q:CQ) (W:je),bQ W g vm vt->ay (·<W.heap.size) W c q->dC (aB c)->cF W->g.mem.length<=900000->g.tree.length<=600000->jj jd 7 #[jb (aA g vm vt).toArray,jb (ah c q).toArray] W λe w'=>(dc g c=0->∃um ut,e=jh (jv #[jb (aA (bX g c) um ut).toArray,I N 0])/\bQ w' (bX g c) um ut)/\(dc g c≠0->e=jh (jv #[jb ZGm,I N (dc g c)]))/\jf W W w'))
 (g:Grp) (vm vt:jc) (c:Cmt) (q:CQ) (n0:Int) (w:je) (h:bQ w g vm vt) (a:ay (·<w.heap.size) w c q) (hi:tQ c) (ad:g.mem.length<=jJ) (al:g.tree.length<=jJ) (l3:c.box.length<=jJ) (l4:c.wel.length<=jJ) (u:bv w):
 jj jd 3 #[jb (aA g vm vt).toArray,jb (ah c q).toArray,I N n0] w λe w'=>e=jh (.bool true)/\jf w w w':=by
 have t:=O r;have b2:=O V;have a1:=O X;have b7:=O s;have v:=kI (vm:=vm) (vt:=vt) h.llen;have y:(jd.info? 37).map (·.size)=A (ah c q).toArray.size:=by rw[jp,dT c q a.plen a.clen];exact fa
 have z:(ah c q).toArray.size=73:=by rw[jp,dT c q a.plen a.clen]
 have F:=O9 a;have a2:=eE c q a.plen a.clen;have K:ih (∀W,bQ W g vm vt->jj jd 5 #[jb (aA g vm vt).toArray] W λe w'=>(∃b,e=jh (.bool b)/\(b=true->g.mem.length<=8/\g.tree.length<=80))/\jf W W w'):=O (λW H=>Gd g vm vt W H al);have M:ih (∀W,ay (·<W.heap.size) W c q->jj jd 6 #[jb (ah c q).toArray] W λe w'=>(∃b,e=jh (.bool b)/\(b=true->wA c))/\jf W W w'):=O (λW H=>JO c q W H l3 l4);have b8:ih (∀W d,bQ W g vm vt->jj jd 8 #[jb (aA g vm vt).toArray,I N d] W λe w'=>e=jh (jv #[jb ((cO g.mem d).getD bF).cells.toArray,.bool (cO g.mem d).isSome])/\jf W W w'):=O (λW d H=>Bl g vm vt d W H ad);have R3:=O a.plen;have Tm:=O a.clen;have HI:=O hi;have eg:=O h;have Yg:=O a;have ej:=O u;obtain⟨au,m⟩:=J ((aA g vm vt).toArray);obtain⟨C,i⟩:=J ((ah c q).toArray);rw[<-m]at v K b8⊢;rw[<-i]at y z F M⊢;obtain⟨x0,j⟩:=J (((w.alloc (ic au 29)).alloc (ic C 37)));obtain⟨Qi,o⟩:=J w.heap.size;have k:=ji w (ic au 29);have P:=af w (ic au 29);have bw:=ji (w.alloc (ic au 29)) (ic C 37);have br:=af (w.alloc (ic au 29)) (ic C 37);replace k:=av k br;rw[js]at bw;have f:=(P).trans (br.mono (P).size);rw[<-j]at f;rw[<-j,<-o]at k;rw[<-j,<-o]at bw;have Rl:=O k;have QB:=O bw;have Qm:=O f;have HW:=O j;have HG:=O o;have Ye:=h.below f;have a3:=a.below f;have a4:=r _ _ u f;have Tj:=O v;have RV:=O y;have Uw:=O z;have YJ:=O F;have YX:=O Ye;have a5:=O a3;have Q:=O a4;have Tq:=O m;have WG:=O i;obtain⟨pc,nc,ek,R⟩:∃p n c',q.vc=T p n c':=by obtain⟨p,c',h⟩:=a.chg.form;exact⟨p,_,c',h⟩
 have Q2:ih (C[0]?=A (I N c.folder)/\C[1]?=A (I N c.epoch)/\C[34]?=A (I N c.author)/\C[35]?=A q.vc/\C[36]?=A q.vp/\C[37]?=A q.vb/\C[38]?=A q.vw/\C[71]?=A (I N c.r)/\C[72]?=A (I N c.s)):=O (by rw[i];simpa using a2);have bs:=MM c.chg q.vc;rw[R]at Q2 bs;have c6:=O R;have QI:=O bs;obtain⟨x,S⟩:=J (bX g c);obtain⟨ne,aa⟩:=J (dc g c);have D:=s g vm vt c q;rw[<-m,<-i,<-S,<-aa]at D;obtain⟨l,b⟩:=J ZGm;rw[<-b]at D;have ba:=O D;have b9:=O S;have SX:=O aa;have bA:ih (∀w:je,(Instr.alloc 29 true (jv #[])).run jd w=.ok (jN (A ⟨w,0,ii⟩)) (w.alloc (ic l 29))):=O (by rw[b];exact JI);have b3:ih ((jd.info? 29).map (·.size)=A l.size):=O (by rw[b];exact PD);have b4:ih (l.all (·.oneCell')=true):=O (by rw[b];exact PM);have c7:ih (l[34]?=A (T ii 0 0)):=O (by rw[b];rfl);have ca:=O b;obtain⟨B,U⟩:=J ZCm;have cb:ih (∀w:je,(Instr.alloc 37 true (jv #[])).run jd w=.ok (jN (A ⟨w,0,ii⟩)) (w.alloc (ic B 37))):=O (by rw[U];exact FK);have cc:ih (B.size=73):=O (by rw[U];exact Kw);clear U;have c8:ih (l.size=36):=O (by rw[b];exact OB);clear Ye a3 a4 v y z F h a hi ad al l3 l4 u m i a2 R bs S aa D b r V X s;clear f j o k P bw br
 go_enter func3,ntmps3
 go_upto_region 1 with fail
 rw[<-HW,<-HG];clear HW;refine jo ?_;refine jg rfl λ_ b=>?_
 go_simp;refine(a1 x0 Q).mono ?_;rintro e x1 ⟨rfl,a⟩;have i:=Z Rl a;have r:=Z QB a;have j:=O (YX.below a);have s:=O (a5.below a);have u:=ac Qm a;have y:=O (t _ _ Q.out a);clear a Rl QB YX a5 Qm Q;refine b _ _ ?_;clear b;refine G ?_;refine aL ?_
 go_upto_region 3 with fail
 refine jo ?_;refine bz (v:=jb au) ag (aY jR rfl Tj rfl rfl i) ?_;refine G ?_;refine jg rfl λ_ b=>?_
 go_simp;refine(K x1 j).mono ?_;rintro e x2 ⟨⟨cd,rfl,f⟩,a⟩;have z:=Z i a;have k:=Z r a;have F:=O (j.below a);have m:=O (s.below a);have o:=ac u a;have S:=O (t _ _ y.out a);clear a i r j s u y;refine b _ _ ?_;clear b;refine G ?_
 cases cd with
 |false=>
  clear f
  go_wp2_with fail
  go_ret;exact⟨rfl,o⟩
 |true=>
 have bk:=O (f rfl);clear f;iterate 2 refine aL ?_
 refine bz (v:=jb C) ag (aY jr rfl RV rfl rfl k) ?_;refine G ?_;refine o8 ag λ_ b=>?_
 go_simp;refine(M x2 m).mono ?_;rintro e x3 ⟨⟨cd,rfl,f⟩,a⟩;have i:=Z z a;have j:=Z k a;have r:=O (F.below a);have P:=O (m.below a);have Q:=ac o a;have R:=O (t _ _ S.out a);clear a z k F m o S;refine b _ _ ?_;clear b;refine G ?_
 cases cd with
 |false=>
  clear f
  go_wp2_with fail
  go_ret;exact⟨rfl,Q⟩
 |true=>
 have k:=KW (f rfl) HI R3 Tm;have Q1:=O k;have c9:=O k.encOk;clear k f HI
 go_upto_region 5 with fail
 refine jo ?_;refine bz (v:=jb au) ag (aY jR rfl Tj rfl rfl i) ?_;refine G ?_;refine bz (v:=jb C) ag (aY jr rfl RV rfl rfl j) ?_;refine G ?_;have D:=ba x3 r P c9 (b2 _ R.out) (aU bk.1) (aU bk.2);refine jg rfl λ_ b=>?_
 go_simp;refine D.mono ?_;rintro e x4 ⟨k,ad,a⟩;clear D;have m:=Z i a;have s:=Z j a;have u:=O (r.below a);have y:=O (P.below a);have z:=ac Q a;have F:=O (t _ _ R.out a);clear a i j r P Q R
 by_cases h0:ne=0
 case neg=>
  obtain rfl:=ad h0;have bw:(ne !=0)=true:=by simpa using h0
  have i:(ne==0)=false:=by simpa using h0
  have P:decide (ne=0)=false:=by simpa using h0
  clear k ad h0;refine b _ _ ?_;clear b;refine G ?_;iterate 3 refine aL ?_
  have f:=ji x4 (ic l 29);obtain⟨X,j⟩:=J x4.heap.size;rw[<-j]at f;have a:=jA (af x4 (ic l 29)) (jz j.symm) l;have o:=ju (x4.alloc (ic l 29)) X _ l _ _ f;refine jg rfl λ_ b=>dW 29 rfl l bA (b _ _ ?_)
  clear b;rw[<-j];refine G ?_;refine jg rfl λ_ b=>jn 29 _ _ rfl X l rfl rfl 29 l f b3 rfl b4 (b _ _ ?_)
  clear b f j;refine G ?_;obtain⟨x5,r⟩:=J ((x4.alloc (ic l 29)).setRow X l);rw[<-r]at a o⊢;clear r;have VI:=Z m a;have Vv:=Z s a;have ce:=O (u.below a);have cf:=O (y.below a);have Qy:=ac z a;have cj:=O (t _ _ F.out a);clear a m s u y z F;have UB:=O o;clear o;refine aL ?_;have db:=cell_of UB c7
  go_wp2_with fail
  go_ret;exact⟨rfl,Qy⟩
 obtain⟨um,ut,rfl,i⟩:=k h0;have bc:ih (fS g c):=O (zy.1 (SX.symm.trans h0));subst h0;clear k ad;obtain⟨pm,cm,pt,nt,ct,rfl,rfl⟩:=Ny i;obtain⟨lx,P⟩:=J x.mem.length;rw[<-P]at i⊢;obtain⟨AX,k⟩:=J ((aA x (T pm lx cm) (T pt nt ct)).toArray);have cu:ih ((jd.info? 29).map (·.size)=A AX.size):=O (by rw[k];exact kI i.llen);have dd:ih (AX.size=36):=O (by rw[k];exact KS i.llen);have dn:ih (AX.all (·.oneCell')=true):=O (by rw[k];exact Mx);have dr:ih (AX[34]?=A (T pm lx cm)):=O (by rw[k];simpa using(kF i.llen).2.2.1);rw[<-k];have YZ:=O k;have ds:=O P;have Q:=O i;clear i k P;refine b _ _ ?_;clear b;refine G ?_;iterate 3 refine aL ?_
 have f:=ji x4 (ic l 29);obtain⟨X,j⟩:=J x4.heap.size;rw[<-j]at f;have a:=jA (af x4 (ic l 29)) (jz j.symm) AX;have o:=ju (x4.alloc (ic l 29)) X _ AX _ _ f;refine jg rfl λ_ b=>dW 29 rfl l bA (b _ _ ?_)
 clear b;rw[<-j];refine G ?_;refine jg rfl λ_ b=>jn 29 _ _ rfl X AX rfl rfl 29 l f cu (c8.trans dd.symm) dn (b _ _ ?_)
 clear b f j;refine G ?_;obtain⟨x5,r⟩:=J ((x4.alloc (ic l 29)).setRow X AX);rw[<-r]at a o⊢;clear r;have VI:=Z m a;have Vv:=Z s a;have ce:=O (u.below a);have cf:=O (y.below a);have Qy:=ac z a;have cj:=O (t _ _ F.out a);have P:=O (Q.below a);clear a m s u y z F Q;have UB:=O o;clear o;refine aL ?_;have cv:ih (∀W d,bQ W x (T pm lx cm) (T pt nt ct)->jj jd 8 #[jb AX,I N d] W λe w'=>e=jh (jv #[jb ((cO x.mem d).getD bF).cells.toArray,.bool (cO x.mem d).isSome])/\jf W W w'):=O (λW d H=>by
  rw[YZ];refine Bl x _ _ d W H ?_;have:=zD x.mem 512;have i:=zu (g:=x) (by rw[b9];exact vq bc);unfold jJ
  omega)
 have cw:ih (∀d,tv g x c d):=O (λd=>by rw[b9];exact Ij bc d);have VP:ih (gd x.mem 512=lx):=O (by rw[ds];exact zu (by rw[b9];exact vq bc));obtain⟨ep,d⟩:=J c.epoch;obtain⟨fo,i⟩:=J c.folder;rw[<-d,<-i]at Q2;have SJ:=O d;have dv:=O i;clear d i K M a1 ba SX
 go_upto_region 9 with fail
 go_wp2_with fail
 go_loopw [9,43] (λd i wr=>∃k:Nat,i=I N k/\k<=512/\d=I N (gd x.mem k:Nat)/\ih (jf x5 x5 wr)) (λ_ v _=>512-(jl v).toNat)
 case atStart=>exact⟨0,rfl,by omega,rfl,O (jM _ _)⟩
 obtain⟨k,rfl,hk,rfl,HR⟩:=hrel;obtain⟨x6,rfl⟩:∃y,y=wr:=⟨wr,rfl⟩;have a:=HR.out;have ZB:=Z VI a;have bT:=Z Vv a;have bo:=O (ce.below a);have b0:=O (cf.below a);have RA:=ac Qy a;have b1:=O (t _ _ cj.out a);have b5:=O (P.below a);have Ve:=Z UB a;clear a VI Vv ce cf Qy cj P UB;have ck:=HR;clear HR;obtain⟨mk,d⟩:∃y:Nat,y=gd x.mem k:=⟨_,rfl⟩;rw[<-d];have cn:=O d;have em:mk<=512:=by have:=zD x.mem k;omega
 clear d
 by_cases ea:k<512
 ·have hd:=aj ((k:Int)<512)
  have Q3:=aj (k<512)
  go_upto_region 12 with fail
  refine jo ?_;have d:=cw (k:Nat);unfold tv at d;obtain⟨og,m⟩:=J (cO g.mem (k:Nat));obtain⟨ox,i⟩:=J (cO x.mem (k:Nat));obtain⟨oc,bs⟩:=J (fX c.chg (k:Nat));rw[<-m,<-i,<-bs]at d;have s:=I7 x.mem k;rw[<-i,<-cn]at s;have YR:=O s;have u:=λW H=>b8 W (k:Nat) H
  rw[<-m]at u;have z:=λW H=>cv W (k:Nat) H
  rw[<-i]at z;have F:=QI (k:Nat);rw[<-bs]at F;have R:=O u;have U:=O z;have RP:=O F;have eb:=O d;clear d m i bs s u z F;obtain⟨V,i⟩:=J ((og.getD bF).cells.toArray);obtain⟨d,m⟩:=J ((ox.getD bF).cells.toArray);obtain⟨YC,s⟩:=J ((oc.getD pf).cells.toArray);rw[<-i]at R;rw[<-m]at U;rw[<-s]at RP;have bb:ih ((jd.info? 45).map (·.size)=A V.size/\V.size=3/\V.all (·.oneCell')=true):=O (by rw[i];exact⟨by kernel_rfl,rfl,by simp[Mem.cells,jD]⟩);have bq:ih ((jd.info? 45).map (·.size)=A d.size/\d.size=3/\d.all (·.oneCell')=true):=O (by rw[m];exact⟨by kernel_rfl,rfl,by simp[Mem.cells,jD]⟩);have cp:ih ((jd.info? 49).map (·.size)=A YC.size/\YC.size=5/\YC.all (·.oneCell')=true):=O (by rw[s];exact⟨by kernel_rfl,rfl,by simp[Chg.cells,jD]⟩);have cq:=O i;have ec:=O m;have ed:=O s;clear i m s;refine bz (v:=jb au) ag (aY jR rfl Tj rfl rfl ZB) ?_;refine G ?_;refine aL ?_;refine jg rfl λ_ b=>?_
  go_simp;refine(R x6 bo).mono ?_;rintro e s ⟨rfl,a⟩;have Wq:=Z ZB a;have VQ:=Z bT a;have bd:=O (bo.below a);have Y6:=O (b0.below a);have SU:=ac RA a;have bf:=O (t _ _ b1.out a);have bg:=O (b5.below a);have VR:=Z Ve a;have bh:=ac ck a;clear a ZB bT bo b0 RA b1 b5 Ve ck;refine b _ _ ?_;clear b;refine G ?_;iterate 3 refine aL ?_
  have f:=ji s (ic #[I N 0,I N 0,I N 0] 45);obtain⟨Vw,j⟩:=J s.heap.size;rw[<-j]at f;have a:=jA (af s (ic #[I N 0,I N 0,I N 0] 45)) (jz j.symm) V;have o:=ju (s.alloc (ic #[I N 0,I N 0,I N 0] 45)) Vw _ V _ _ f;refine jg rfl λ_ b=>dW 45 rfl #[I N 0,I N 0,I N 0] Bb (b _ _ ?_)
  clear b;rw[<-j];refine G ?_;refine jg rfl λ_ b=>jn 45 _ _ rfl Vw V rfl rfl 45 #[I N 0,I N 0,I N 0] f bb.1 bb.2.1.symm bb.2.2 (b _ _ ?_)
  clear b f j;refine G ?_;obtain⟨x8,r⟩:=J ((s.alloc (ic #[I N 0,I N 0,I N 0] 45)).setRow Vw V);rw[<-r]at a o⊢;clear r;have K:=Z Wq a;have TZ:=Z VQ a;have M:=O (bd.below a);have Q:=O (Y6.below a);have Rn:=ac SU a;have S:=O (t _ _ bf.out a);have al:=O (bg.below a);have Vf:=Z VR a;have ZQ:=ac bh a;clear a Wq VQ bd Y6 SU bf bg VR bh;have i:=O o;clear o;refine aL ?_
  go_upto_region 13 with fail
  refine jo ?_;refine bz (v:=jb AX) ag (aY jR rfl cu rfl rfl Vf) ?_;refine G ?_;refine aL ?_;refine jg rfl λ_ b=>?_
  go_simp;refine(U x8 al).mono ?_;rintro e u ⟨rfl,a⟩;have Sn:=Z K a;have RX:=Z TZ a;have a1:=O (M.below a);have a2:=O (Q.below a);have Rt:=ac Rn a;have a3:=O (t _ _ S.out a);have a4:=O (al.below a);have Yl:=Z Vf a;have a5:=ac ZQ a;have m:=Z i a;clear a K TZ M Q Rn S al Vf ZQ i;refine b _ _ ?_;clear b;refine G ?_;iterate 3 refine aL ?_
  have f:=ji u (ic #[I N 0,I N 0,I N 0] 45);obtain⟨P,j⟩:=J u.heap.size;rw[<-j]at f;have a:=jA (af u (ic #[I N 0,I N 0,I N 0] 45)) (jz j.symm) d;have o:=ju (u.alloc (ic #[I N 0,I N 0,I N 0] 45)) P _ d _ _ f;refine jg rfl λ_ b=>dW 45 rfl #[I N 0,I N 0,I N 0] Bb (b _ _ ?_)
  clear b;rw[<-j];refine G ?_;refine jg rfl λ_ b=>jn 45 _ _ rfl P d rfl rfl 45 #[I N 0,I N 0,I N 0] f bq.1 bq.2.1.symm bq.2.2 (b _ _ ?_)
  clear b f j;refine G ?_;obtain⟨Y5,r⟩:=J ((u.alloc (ic #[I N 0,I N 0,I N 0] 45)).setRow P d);rw[<-r]at a o⊢;clear r;have bB:=Z Sn a;have Z9:=Z RX a;have bC:=O (a1.below a);have bu:=O (a2.below a);have YL:=ac Rt a;have bI:=O (t _ _ a3.out a);have bK:=O (a4.below a);have bM:=Z Yl a;have bl:=ac a5 a;have i:=Z m a;clear a Sn RX a1 a2 Rt a3 a4 Yl a5 m;have m:=O o;clear o;refine aL ?_
  go_upto_region 14 with fail
  refine jo ?_;refine aL ?_;have z:=cell_of Z9 Q2.2.2.2.1;refine aL ?_;clear z;refine aL ?_;refine jg rfl λ_ b=>?_
  go_simp;refine(RP Y5 (by rw[<-c6];exact EK.At.of_sl (E:=EC) bu.chg) (by have:=Q1.chg.1;unfold jJ;omega)).mono ?_;rintro e TE ⟨rfl,a⟩;have z:=Z bB a;have F:=Z Z9 a;have bm:=O (bC.below a);have bn:=O (bu.below a);have bO:=ac YL a;have cs:=O (t _ _ bI.out a);have cx:=O (bK.below a);have cy:=Z bM a;have cz:=ac bl a;have cA:=Z i a;have cL:=Z m a;clear a bB Z9 bC bu YL bI bK bM bl i m;refine b _ _ ?_;clear b;refine G ?_;iterate 3 refine aL ?_
  have f:=ji TE (ic #[I N 0,I N 0,I N 0,I N 0,I N 0] 49);obtain⟨ba,j⟩:=J TE.heap.size;rw[<-j]at f;have a:=jA (af TE (ic #[I N 0,I N 0,I N 0,I N 0,I N 0] 49)) (jz j.symm) YC;have o:=ju (TE.alloc (ic #[I N 0,I N 0,I N 0,I N 0,I N 0] 49)) ba _ YC _ _ f;refine jg rfl λ_ b=>dW 49 rfl #[I N 0,I N 0,I N 0,I N 0,I N 0] NZ (b _ _ ?_)
  clear b;rw[<-j];refine G ?_;refine jg rfl λ_ b=>jn 49 _ _ rfl ba YC rfl rfl 49 #[I N 0,I N 0,I N 0,I N 0,I N 0] f cp.1 cp.2.1.symm cp.2.2 (b _ _ ?_)
  clear b f j;refine G ?_;obtain⟨WK,r⟩:=J ((TE.alloc (ic #[I N 0,I N 0,I N 0,I N 0,I N 0] 49)).setRow ba YC);rw[<-r]at a o⊢;clear r;have eq:=Z z a;have cX:=Z F a;have er:=O (bm.below a);have ev:=O (bn.below a);have ew:=ac bO a;have e0:=O (t _ _ cs.out a);have e5:=O (cx.below a);have e6:=Z cy a;have bN:=ac cz a;have c5:=Z cA a;have b6:=Z cL a;clear a z F bm bn bO cs cx cy cz cA cL;have bO:=O o;clear o;refine aL ?_;clear R U RP;have e1:V=(og.getD bF).cells.toArray:=cq.out;have e2:d=(ox.getD bF).cells.toArray:=ec.out;have e3:YC=(oc.getD pf).cells.toArray:=ed.out;have bm:=eb.out
  rcases oc with _|y
  ·obtain rfl:ox=og:=bm
   rw[<-e1]at e2;subst e2;clear e1 e3
   rcases ox with _|m
   ·have U:gd x.mem (k+1)=mk:=by have:=YR.out;simpa using this
    obtain⟨bn⟩:Nonempty (∀z,(Op.equalIn 10000 45 (jb d) (jb d)).run jd z=.ok true z):=⟨λz=>by rw[cq];exact rO _ _ _ z⟩
    go_upto_region 20 with fail
    refine jo ?_;iterate 4 refine aL ?_
    refine bz (v:=jb d) ag (aY jZ rfl bb.1 rfl rfl c5) ?_;refine G ?_;refine bz (v:=jb d) ag (aY jZ rfl bb.1 rfl rfl b6) ?_;refine G ?_;iterate 2 refine aL ?_
    clear bn
    go_wp2_with fail
    exact⟨⟨k+1,by go_num,by omega,by rw[U],bN⟩,by simp only[jl];omega⟩
   have U:gd x.mem (k+1)=mk+1:=by have:=YR.out;simpa using this
   obtain⟨bn⟩:Nonempty (∀z,(Op.equalIn 10000 45 (jb d) (jb d)).run jd z=.ok true z):=⟨λz=>by rw[cq];exact rO _ _ _ z⟩
   go_upto_region 20 with fail
   refine jo ?_;iterate 4 refine aL ?_
   refine bz (v:=jb d) ag (aY jZ rfl bb.1 rfl rfl c5) ?_;refine G ?_;refine bz (v:=jb d) ag (aY jZ rfl bb.1 rfl rfl b6) ?_;refine G ?_;iterate 2 refine aL ?_
   clear bn
   go_wp2_with fail
   exact⟨⟨k+1,by go_num,by omega,by rw[U];go_num,bN⟩,by simp only[jl];omega⟩
  dsimp only at bm
  by_cases F:y.k=2
  ·rw[if_pos F]at bm
   obtain⟨R,rfl⟩:=bm;obtain⟨m,rfl⟩:=ow.1 R;clear R;have U:gd x.mem (k+1)=mk:=by have:=YR.out;simpa using this
   have cx:WK.cell? ⟨ba,0,ii⟩=A (I N y.k):=cell_of bO.out (by rw[e3];rfl);have cy:decide (y.k=2)=true:=by simpa using F
   have cz:(y.k==2)=true:=by simpa using F
   go_wp2_with fail
   exact⟨⟨k+1,by go_num,by omega,by rw[U],bN⟩,by simp only[jl];omega⟩
  rw[if_neg F]at bm
  by_cases TD:y.k=1
  ·obtain⟨rfl,R⟩:=bm
   have U:gd x.mem (k+1)=mk+1:=by have:=YR.out;simpa using this
   have VH:decide (y.k=1)=true:=by simpa using TD
   have cs:(y.k==1)=true:=by simpa using TD
   rw[cs]at R;obtain rfl:og=ii:=by cases og with|none=>rfl|some m=>cases R
   clear R TD;have cx:WK.cell? ⟨ba,0,ii⟩=A (I N y.k):=cell_of bO.out (by rw[e3];rfl);have cA:WK.cell? ⟨ba,3,ii⟩=A (I N y.v):=cell_of (i:=3) bO.out (by rw[e3];rfl);have c1:=cell_of cX Q2.2.1;have cy:decide (y.k=2)=false:=by simpa using F
   have cz:(y.k==2)=false:=by simpa using F
   have e4:d= #[I N (k:Nat),I N ep,I N y.v]:=by rw[e2,SJ];rfl
   obtain⟨bn⟩:Nonempty (∀z,(Op.equalIn 10000 45 (jb d) (jb #[I N (k:Nat),I N ep,I N y.v])).run jd z=.ok true z):=⟨λz=>by rw[e4];exact rO _ _ _ z⟩;clear e1 e2 e3 e4
   go_upto_region 17 with fail
   refine jo ?_;iterate 10 refine aL ?_
   refine bz (v:=jb d) ag (aY jZ rfl bq.1 rfl rfl b6) ?_;refine G ?_;iterate 8 refine aL ?_
   clear bn
   go_wp2_with fail
   exact⟨⟨k+1,by go_num,by omega,by rw[U];go_num,bN⟩,by simp only[jl];omega⟩
  obtain⟨rfl,R⟩:=bm;have U:gd x.mem (k+1)=mk+1:=by have:=YR.out;simpa using this
  have VH:decide (y.k=1)=false:=by simpa using TD
  have cs:(y.k==1)=false:=by simpa using TD
  rw[cs]at R;obtain⟨m,rfl⟩:=ow.1 R;clear R TD;have cx:WK.cell? ⟨ba,0,ii⟩=A (I N y.k):=cell_of bO.out (by rw[e3];rfl);have cA:WK.cell? ⟨ba,3,ii⟩=A (I N y.v):=cell_of (i:=3) bO.out (by rw[e3];rfl);have c1:=cell_of cX Q2.2.1;have cy:decide (y.k=2)=false:=by simpa using F
  have cz:(y.k==2)=false:=by simpa using F
  have e4:d= #[I N (k:Nat),I N ep,I N y.v]:=by rw[e2,SJ];rfl
  obtain⟨bn⟩:Nonempty (∀z,(Op.equalIn 10000 45 (jb d) (jb #[I N (k:Nat),I N ep,I N y.v])).run jd z=.ok true z):=⟨λz=>by rw[e4];exact rO _ _ _ z⟩;clear e1 e2 e3 e4
  go_upto_region 17 with fail
  refine jo ?_;iterate 10 refine aL ?_
  refine bz (v:=jb d) ag (aY jZ rfl bq.1 rfl rfl b6) ?_;refine G ?_;iterate 8 refine aL ?_
  clear bn
  go_wp2_with fail
  exact⟨⟨k+1,by go_num,by omega,by rw[U];go_num,bN⟩,by simp only[jl];omega⟩
 have hd:=ak ((k:Int)<512);have Q3:=ak (k<512);have d:k=512:=Y;obtain rfl:mk=lx:=by have h:=cn.out;rw[d]at h;exact h.trans VP
 clear d VP cn cw cv b8 QI
 go_upto_region 27 with fail
 obtain⟨m,br,b6,d⟩:=NM n0;rw[d];clear d
 go_wp2_with fail
 go_loopw [111] (λv wr=>∃i:Nat,v=I N i/\i<=3/\ih (jf x6 x6 wr)) (λv _=>3-(jl v).toNat)
 case atStart=>exact⟨0,rfl,by omega,O (jM _ _)⟩
 obtain⟨i,rfl,hi,HR⟩:=hrel;obtain⟨s,rfl⟩:∃y,y=wr:=⟨wr,rfl⟩;have a:=HR.out;clear ck;have Wq:=Z ZB a;have VQ:=Z bT a;have bd:=O (bo.below a);have Y6:=O (b0.below a);have SU:=ac RA a;have bf:=O (t _ _ b1.out a);have bg:=O (b5.below a);have VR:=Z Ve a;clear a ZB bT bo b0 RA b1 b5 Ve;have bh:=HR;clear HR
 by_cases ea:i<3
 ·have hd:=aj ((i:Int)<3)
  have Q3:=aj (i<3)
  rcases(show(i:Int)=0\/(i:Int)=1\/(i:Int)=2 by omega)with H|H|H
  ·have ck:decide ((i:Int)=0)=true:=by rw[H];decide
   have SN:((i:Int)==0)=true:=by rw[H];decide
   clear H
   go_upto_region 30 with fail
   refine jo ?_;refine bz (v:=jb C) ag (aY jr rfl RV rfl rfl VQ) ?_;refine G ?_;have f:=ji s (ic B 37);obtain⟨V,j⟩:=J s.heap.size;rw[<-j]at f;have ba:=jA (af s (ic B 37)) (jz j.symm) C;have o:=ju (s.alloc (ic B 37)) V _ C _ _ f;refine jg rfl λ_ b=>dW 37 rfl B cb (b _ _ ?_)
   clear b;rw[<-j];refine G ?_;refine jg rfl λ_ b=>jn 37 _ _ rfl V C rfl rfl 37 B f RV (cc.trans Uw.symm) YJ (b _ _ ?_)
   clear b f;refine G ?_;obtain⟨y0,F⟩:=J ((s.alloc (ic B 37)).setRow V C);rw[<-F]at ba o⊢;have bN:=O j;have Qm:=O ba;have P:=O o;clear F ba o j;obtain⟨d,bO,b5,bT,aa⟩:=Ew fo m br b6;have b8:=O bT;have b0:=O aa;clear bT aa
   go_upto_region 33 with fail
   refine jo ?_;have c0:=cell_of P Q2.1;iterate 5 refine aL ?_
   clear c0 bO b5;refine jg rfl λ_ b=>?_
   obtain⟨⟨vo,b1⟩,f3,-,-⟩:=bH (i:=0) (I N d) P.out (by rw[Uw];omega);go_simp;refine b _ _ ?_;clear b b1 f3;refine G ?_;have a:=qc Qm.out (p:=⟨V,0,ii⟩) (show s.heap.size<=V by rw[bN];exact jq _) (I N d);have U:=iG (i:=0) (I N d) P;obtain⟨x8,r⟩:=J (y0.setCell ⟨V,0,ii⟩ (I N d));rw[<-r]at a U⊢;clear r Qm P;obtain⟨z,f⟩:∃z:Cmt,z={c with folder:=d}:=⟨_,rfl⟩;obtain⟨CZ,W⟩:=J ((ah z q).toArray);rw[show C.setIfInBounds 0 (I N d)=CZ by rw[W,f,WG];exact CR c q d]at U;have K:=Z Wq a;have TZ:=Z VQ a;have M:=O (bd.below a);have Q:=O (Y6.below a);have Rn:=ac SU a;have S:=O (t _ _ bf.out a);have al:=O (bg.below a);have Vf:=Z VR a;have ZQ:=ac bh a;clear a Wq VQ bd Y6 SU bf bg VR bh;have bb:=O U;clear U;have bm:(jd.info? 37).map (·.size)=A CZ.size:=by rw[W,f,<-CR c q d,<-WG,qd];exact RV
   have QH:=O bm;have bn:ay (·<x8.heap.size) x8 z q:=by rw[f];exact Q.folder d
   have D:=b7 g vm vt z q x8 M bn (by rw[f];exact(Q1.folder b8).encOk) (b2 _ S.out) (aU bk.1) (aU bk.2);rw[<-W,<-Tq,<-ca,show dc g z=220 by rw[f];exact wN bc.val (Hw bc.out (by rw[<-dv];exact b0))]at D;have bo:=O D;clear D bn bm W f
   go_upto_region 38 with fail
   refine jo ?_;refine bz (v:=jb au) ag (aY jR rfl Tj rfl rfl K) ?_;refine G ?_;refine bz (v:=jb CZ) ag (aY jr rfl QH rfl rfl bb) ?_;refine G ?_;refine jg rfl λ_ b=>?_
   go_simp;refine bo.mono ?_;rintro e u ⟨-,ad,a⟩;obtain rfl:=ad L;clear ad bo;have Sn:=Z K a;have RX:=Z TZ a;have a1:=O (M.below a);have a2:=O (Q.below a);have Rt:=ac Rn a;have a3:=O (t _ _ S.out a);have a4:=O (al.below a);have Yl:=Z Vf a;have a5:=ac ZQ a;have bq:=Z bb a;clear a K TZ M Q Rn S al Vf ZQ bb;refine b _ _ ?_;clear b;refine G ?_;iterate 3 refine aL ?_
   have f:=ji u (ic l 29);obtain⟨R,j⟩:=J u.heap.size;rw[<-j]at f;have a:=jA (af u (ic l 29)) (jz j.symm) l;have o:=ju (u.alloc (ic l 29)) R _ l _ _ f;refine jg rfl λ_ b=>dW 29 rfl l bA (b _ _ ?_)
   clear b;rw[<-j];refine G ?_;refine jg rfl λ_ b=>jn 29 _ _ rfl R l rfl rfl 29 l f b3 rfl b4 (b _ _ ?_)
   clear b f j;refine G ?_;obtain⟨Y5,r⟩:=J ((u.alloc (ic l 29)).setRow R l);rw[<-r]at a o⊢;clear r;have bB:=Z Sn a;have Z9:=Z RX a;have bC:=O (a1.below a);have bu:=O (a2.below a);have YL:=ac Rt a;have bI:=O (t _ _ a3.out a);have bK:=O (a4.below a);have bM:=Z Yl a;have bl:=ac a5 a;have cn:=Z bq a;clear a Sn RX a1 a2 Rt a3 a4 Yl a5 bq;have cp:=O o;clear o
   go_wp2_with fail
   exact⟨⟨i+1,by go_num,by omega,bl⟩,by simp only[jl];omega⟩
  ·have ck:decide ((i:Int)=0)=false:=by rw[H];decide
   have SN:((i:Int)==0)=false:=by rw[H];decide
   have Wk:decide ((i:Int)=1)=true:=by rw[H];decide
   have Wd:((i:Int)==1)=true:=by rw[H];decide
   clear H
   go_upto_region 30 with fail
   refine jo ?_;refine bz (v:=jb C) ag (aY jr rfl RV rfl rfl VQ) ?_;refine G ?_;have f:=ji s (ic B 37);obtain⟨V,j⟩:=J s.heap.size;rw[<-j]at f;have ba:=jA (af s (ic B 37)) (jz j.symm) C;have o:=ju (s.alloc (ic B 37)) V _ C _ _ f;refine jg rfl λ_ b=>dW 37 rfl B cb (b _ _ ?_)
   clear b;rw[<-j];refine G ?_;refine jg rfl λ_ b=>jn 37 _ _ rfl V C rfl rfl 37 B f RV (cc.trans Uw.symm) YJ (b _ _ ?_)
   clear b f;refine G ?_;obtain⟨y0,F⟩:=J ((s.alloc (ic B 37)).setRow V C);rw[<-F]at ba o⊢;have bN:=O j;have Qm:=O ba;have P:=O o;clear F ba o j;obtain⟨d,bO,b5,bT,aa⟩:=Ew ep m br b6;have b8:=O bT;have b0:=O aa;clear bT aa
   go_upto_region 35 with fail
   refine jo ?_;have c0:=cell_of P Q2.2.1;iterate 5 refine aL ?_
   clear c0 bO b5;refine jg rfl λ_ b=>?_
   obtain⟨⟨vo,b1⟩,f3,-,-⟩:=bH (i:=1) (I N d) P.out (by rw[Uw];omega);go_simp;refine b _ _ ?_;clear b b1 f3;refine G ?_;have a:=qc Qm.out (p:=⟨V,1,ii⟩) (show s.heap.size<=V by rw[bN];exact jq _) (I N d);have U:=iG (i:=1) (I N d) P;obtain⟨x8,r⟩:=J (y0.setCell ⟨V,1,ii⟩ (I N d));rw[<-r]at a U⊢;clear r Qm P;obtain⟨z,f⟩:∃z:Cmt,z={c with epoch:=d}:=⟨_,rfl⟩;obtain⟨CZ,W⟩:=J ((ah z q).toArray);rw[show C.setIfInBounds 1 (I N d)=CZ by rw[W,f,WG];exact A6 c q d]at U;have K:=Z Wq a;have TZ:=Z VQ a;have M:=O (bd.below a);have Q:=O (Y6.below a);have Rn:=ac SU a;have S:=O (t _ _ bf.out a);have al:=O (bg.below a);have Vf:=Z VR a;have ZQ:=ac bh a;clear a Wq VQ bd Y6 SU bf bg VR bh;have bb:=O U;clear U;have bm:(jd.info? 37).map (·.size)=A CZ.size:=by rw[W,f,<-A6 c q d,<-WG,qd];exact RV
   have QH:=O bm;have bn:ay (·<x8.heap.size) x8 z q:=by rw[f];exact Q.epoch d
   have D:=b7 g vm vt z q x8 M bn (by rw[f];exact(Q1.epoch b8).encOk) (b2 _ S.out) (aU bk.1) (aU bk.2);rw[<-W,<-Tq,<-ca,show dc g z=220 by rw[f];exact wN bc.val (GF bc.out (by rw[<-SJ];exact b0))]at D;have bo:=O D;clear D bn bm W f
   go_upto_region 38 with fail
   refine jo ?_;refine bz (v:=jb au) ag (aY jR rfl Tj rfl rfl K) ?_;refine G ?_;refine bz (v:=jb CZ) ag (aY jr rfl QH rfl rfl bb) ?_;refine G ?_;refine jg rfl λ_ b=>?_
   go_simp;refine bo.mono ?_;rintro e u ⟨-,ad,a⟩;obtain rfl:=ad L;clear ad bo;have Sn:=Z K a;have RX:=Z TZ a;have a1:=O (M.below a);have a2:=O (Q.below a);have Rt:=ac Rn a;have a3:=O (t _ _ S.out a);have a4:=O (al.below a);have Yl:=Z Vf a;have a5:=ac ZQ a;have bq:=Z bb a;clear a K TZ M Q Rn S al Vf ZQ bb;refine b _ _ ?_;clear b;refine G ?_;iterate 3 refine aL ?_
   have f:=ji u (ic l 29);obtain⟨R,j⟩:=J u.heap.size;rw[<-j]at f;have a:=jA (af u (ic l 29)) (jz j.symm) l;have o:=ju (u.alloc (ic l 29)) R _ l _ _ f;refine jg rfl λ_ b=>dW 29 rfl l bA (b _ _ ?_)
   clear b;rw[<-j];refine G ?_;refine jg rfl λ_ b=>jn 29 _ _ rfl R l rfl rfl 29 l f b3 rfl b4 (b _ _ ?_)
   clear b f j;refine G ?_;obtain⟨Y5,r⟩:=J ((u.alloc (ic l 29)).setRow R l);rw[<-r]at a o⊢;clear r;have bB:=Z Sn a;have Z9:=Z RX a;have bC:=O (a1.below a);have bu:=O (a2.below a);have YL:=ac Rt a;have bI:=O (t _ _ a3.out a);have bK:=O (a4.below a);have bM:=Z Yl a;have bl:=ac a5 a;have cn:=Z bq a;clear a Sn RX a1 a2 Rt a3 a4 Yl a5 bq;have cp:=O o;clear o
   go_wp2_with fail
   exact⟨⟨i+1,by go_num,by omega,bl⟩,by simp only[jl];omega⟩
  have ck:decide ((i:Int)=0)=false:=by rw[H];decide
  have SN:((i:Int)==0)=false:=by rw[H];decide
  have Wk:decide ((i:Int)=1)=false:=by rw[H];decide
  have Wd:((i:Int)==1)=false:=by rw[H];decide
  have Z0:decide ((i:Int)=2)=true:=by rw[H];decide
  have b5:((i:Int)==2)=true:=by rw[H];decide
  clear H
  go_upto_region 30 with fail
  refine jo ?_;refine bz (v:=jb C) ag (aY jr rfl RV rfl rfl VQ) ?_;refine G ?_;have f:=ji s (ic B 37);obtain⟨V,j⟩:=J s.heap.size;rw[<-j]at f;have ba:=jA (af s (ic B 37)) (jz j.symm) C;have o:=ju (s.alloc (ic B 37)) V _ C _ _ f;refine jg rfl λ_ b=>dW 37 rfl B cb (b _ _ ?_)
  clear b;rw[<-j];refine G ?_;refine jg rfl λ_ b=>jn 37 _ _ rfl V C rfl rfl 37 B f RV (cc.trans Uw.symm) YJ (b _ _ ?_)
  clear b f;refine G ?_;obtain⟨y0,F⟩:=J ((s.alloc (ic B 37)).setRow V C);rw[<-F]at ba o⊢;have bN:=O j;have Qm:=O ba;have P:=O o;clear F ba o j;have H:m<c.parent.length:=by rw[R3];omega
  obtain⟨pb,ba⟩:=J (c.parent[m]);obtain⟨d,aa,bO⟩:=FM pb m br b6;have bT:C[2+m]?=A (I .u8 (pb.toNat:Int)):=by
   rw[WG,qe,rY c q R3.out (by rw[<-R3];exact H),ba];simp[j1,jV H]
  have Zn:=O ba;have b0:=O aa;have TC:=O H;have b8:(m:Int)<32:=Y;have SI:IntKind.u8.wrap (m:Int)=(m:Int):=IntWalk.u8_in _ Y;clear ba aa
  go_upto_region 37 with fail
  refine jo ?_;have c0:=cell_of P bT;iterate 9 refine aL ?_
  clear c0 bO bT;refine jg rfl λ_ b=>?_
  obtain⟨⟨vo,b1⟩,f3,-,-⟩:=bH (i:=(2+m)) (I .u8 (d.toNat:Int)) P.out (by rw[Uw];omega);go_simp;refine b _ _ ?_;clear b b1 f3;refine G ?_;have a:=qc Qm.out (p:=⟨V,(2+m),ii⟩) (show s.heap.size<=V by rw[bN];exact jq _) (I .u8 (d.toNat:Int));have U:=iG (i:=(2+m)) (I .u8 (d.toNat:Int)) P;obtain⟨x8,r⟩:=J (y0.setCell ⟨V,(2+m),ii⟩ (I .u8 (d.toNat:Int)));rw[<-r]at a U⊢;clear r Qm P;obtain⟨z,f⟩:∃z:Cmt,z={c with parent:=c.parent.set m d}:=⟨_,rfl⟩;obtain⟨CZ,W⟩:=J ((ah z q).toArray);rw[show C.setIfInBounds (2+m) (I .u8 (d.toNat:Int))=CZ by rw[W,f,WG];exact Bi c q m d TC]at U;have K:=Z Wq a;have TZ:=Z VQ a;have M:=O (bd.below a);have Q:=O (Y6.below a);have Rn:=ac SU a;have S:=O (t _ _ bf.out a);have al:=O (bg.below a);have Vf:=Z VR a;have ZQ:=ac bh a;clear a Wq VQ bd Y6 SU bf bg VR bh;have bb:=O U;clear U;have bm:(jd.info? 37).map (·.size)=A CZ.size:=by rw[W,f,<-Bi c q m d TC,<-WG,qd];exact RV
  have QH:=O bm;have bn:ay (·<x8.heap.size) x8 z q:=by rw[f];exact Q.parent m d
  have D:=b7 g vm vt z q x8 M bn (by rw[f];exact(Q1.parent m d).encOk) (b2 _ S.out) (aU bk.1) (aU bk.2);rw[<-W,<-Tq,<-ca,show dc g z=220 by rw[f];exact wN bc.val (L5 bc (Ju TC.out (by rw[<-Zn];exact b0)))]at D;have bo:=O D;clear D bn bm W f
  go_upto_region 38 with fail
  refine jo ?_;refine bz (v:=jb au) ag (aY jR rfl Tj rfl rfl K) ?_;refine G ?_;refine bz (v:=jb CZ) ag (aY jr rfl QH rfl rfl bb) ?_;refine G ?_;refine jg rfl λ_ b=>?_
  go_simp;refine bo.mono ?_;rintro e u ⟨-,ad,a⟩;obtain rfl:=ad L;clear ad bo;have Sn:=Z K a;have RX:=Z TZ a;have a1:=O (M.below a);have a2:=O (Q.below a);have Rt:=ac Rn a;have a3:=O (t _ _ S.out a);have a4:=O (al.below a);have Yl:=Z Vf a;have a5:=ac ZQ a;have bq:=Z bb a;clear a K TZ M Q Rn S al Vf ZQ bb;refine b _ _ ?_;clear b;refine G ?_;iterate 3 refine aL ?_
  have f:=ji u (ic l 29);obtain⟨R,j⟩:=J u.heap.size;rw[<-j]at f;have a:=jA (af u (ic l 29)) (jz j.symm) l;have o:=ju (u.alloc (ic l 29)) R _ l _ _ f;refine jg rfl λ_ b=>dW 29 rfl l bA (b _ _ ?_)
  clear b;rw[<-j];refine G ?_;refine jg rfl λ_ b=>jn 29 _ _ rfl R l rfl rfl 29 l f b3 rfl b4 (b _ _ ?_)
  clear b f j;refine G ?_;obtain⟨Y5,r⟩:=J ((u.alloc (ic l 29)).setRow R l);rw[<-r]at a o⊢;clear r;have bB:=Z Sn a;have Z9:=Z RX a;have bC:=O (a1.below a);have bu:=O (a2.below a);have YL:=ac Rt a;have bI:=O (t _ _ a3.out a);have bK:=O (a4.below a);have bM:=Z Yl a;have bl:=ac a5 a;have cn:=Z bq a;clear a Sn RX a1 a2 Rt a3 a4 Yl a5 bq;have cp:=O o;clear o
  go_wp2_with fail
  exact⟨⟨i+1,by go_num,by omega,bl⟩,by simp only[jl];omega⟩
 have hd:=ak ((i:Int)<3);have Q3:=ak (i<3);have db:=cell_of VR dr
 go_wp2_with fail
 go_ret;exact⟨rfl,SU⟩
theorem CL{P:Program}{b:Array Oper}{c:Exit->Act->je->Prop}{S:je->Prop}{t:Sch}{a:Act}{w:je}(r:Sch){d:Nat->Nat->Act}{e:Nat->Nat->je->Prop}(f:∀x y w,e x y w->dM P b c S r (d x y) w)(h:(∀x y w,e x y w->dM P b c S r (d x y) w)->dM P b c S t a w):dM P b c S t a w:=h f
theorem m9{a:Act}{o:Oper}{x:j6}{c:jy}{d:TypeDesc}{b f:Nat}{cs:List jc}{e:je}(g:jd.underlying c=A d)(h:d.isRow=true)(i:(jd.info? c).map (·.size)=A cs.length)(j:o.op=.load c x)(k:a.eval x=jN (A ⟨b,f,ii⟩))(l:e.rangeAt b f cs):
 (j7 a.eval o).run jd e=.ok (.value (jb cs.toArray)) e:=po o a c x j b f k cs d l g h i
theorem IA{a:Act}{o:Oper}{d:Array (Nat×j6)}{f e au:Int}{b:Array jc}{p:Option jI}{n c:Nat}(g:b.size=32)(h:o.op=.build 37 d)(j:(d.map fun(i,x)=>(i,a.eval x))= #[(0,I N f),(1,I N e),(2,jb b),(3,I N au),(4,T p n c)])(W:je):
 (j7 a.eval o).run jd W=.ok (.value (jb (#[I N f,I N e]++b++ #[I N au,T p n c,T ii 0 0,T ii 0 0,T ii 0 0]++(dj.map v8).toArray++ #[I N 0,I N 0]))) W:=by
 simp only[j7,h,j,Sem.run_bind,Iq f e au b g p n c,Result.andThen_ok,Sem.run_pure]
theorem KL{a:Act}{o:Oper}(b:o.op=.build 53 #[])(W:je):
 (j7 a.eval o).run jd W=.ok (.value (jb (dj.map v8).toArray)) W:=by
 simp only[j7,b,qy,qf,Sem.run_bind,La,Result.andThen_ok,Sem.run_pure]
theorem NY{g:Grp}{a:Int}{c:List Chg}{d:LBy}{W w0:je}{n M o R i:Nat}{X:jc->Array jc}{j e k:jc}{f:List Bx}{p:List jc}(b:g.last.length=32)(l:W.ownsRow n 49 5 j c.length (c.flatMap Chg.cells))(m:W.ownsRow M 3 1 e 10 ((dp d).map (jO .i64)))(q:cg o R 37 74 4 Bx.cells Bx.body X w0 W i k f p)(r:i=f.length):ay (·<W.heap.size) W {mk0 g a c d with box:=f} ⟨j,e,k,T ii 0 0⟩:=by
 refine⟨ap.of_own l (λg b=>(l.lt g b).2),?_,q.slice r (λg _ b=>b),⟨[],⟨rfl,ii,0,rfl,jq _,λ_=>rfl,λh=>absurd h (Nat.lt_irrefl 0)⟩,rfl⟩,b,dy⟩;have h:=ap.of_own (D:=(·<W.heap.size)) m (λg b=>(m.lt g b).2);show ap _ W e 1 (dp d).length _;rw[iO];exact h
def iB(D:Nat->Prop)(W:je)(v:jc)(l:List Bx):Prop:=∃a,ap D W v 4 l.length (cG Bx.cells l a)/\bR D W (l.map Bx.body) a
theorem iB.keep{D D':Nat->Prop}{w w':je}{v:jc}{l:List Bx}(h:iB D w v l)(hk:∀g,D g->w'.heap[g]?=w.heap[g]?)(a:∀g,D g->D' g):iB D' w' v l:=by
 obtain⟨b,c,d⟩:=h;exact⟨b,(c.keep hk).mono a,(d.keep hk).mono a⟩
theorem iB.below{w w':je}{v:jc}{l:List Bx}(h:iB (·<w.heap.size) w v l)(b:jf w w w'):iB (·<w'.heap.size) w' v l:=h.keep (λg a=>b.block g a) (λg a=>jm a b.size)
theorem Oi{g:Grp}{a:Int}{c:List Chg}{d:LBy}{W w0:je}{p M q R i:Nat}{X:jc->Array jc}{j e k l:jc}{m:List Bx}{f:List Wl}{r:List jc}(b:g.last.length=32)(n:W.ownsRow p 49 5 j c.length (c.flatMap Chg.cells))(o:W.ownsRow M 3 1 e 10 ((dp d).map (jO .i64)))(s:iB (·<W.heap.size) W k m)(t:cg q R 37 76 3 Wl.cells Wl.body X w0 W i l f r)(u:i=f.length):ay (·<W.heap.size) W {mk0 g a c d with box:=m,wel:=f} ⟨j,e,k,l⟩:=by
 refine⟨ap.of_own n (λg b=>(n.lt g b).2),?_,s,t.slice u (λg _ b=>b),b,dy⟩;have h:=ap.of_own (D:=(·<W.heap.size)) o (λg b=>(o.lt g b).2);show ap _ W e 1 (dp d).length _;rw[iO];exact h
theorem NT{w w':je}{v:jc}{l:List Chg}(h:EC.At w v l)(hk:∀(g o:Nat) (x:Int),w.cell? ⟨g,o,ii⟩=A (I N x)->w'.cell? ⟨g,o,ii⟩=A (I N x)):EC.At w' v l:=by
 obtain⟨i,p,c,e,k,m,n⟩:=h;refine⟨i,p,c,e,k,m,λq=>?_⟩;obtain⟨g,o,ep,r⟩:=n q;refine⟨g,o,ep,λj a b=>?_⟩;have s:=r j a b;have t:∃x,a=I N x:=by
  have d:=nn b;unfold EK.flat at d;obtain⟨y,-,u⟩:=List.mem_flatMap.1 d;have f:a∈Chg.cells y:=u;simp only[Chg.cells,jL,o4,or_false]at f
  rcases f with rfl|rfl|rfl|rfl|rfl<;>exact⟨_,rfl⟩
 obtain⟨x,rfl⟩:=t;exact hk _ _ _ s
theorem Mi{w w':je}{v:jc}{l:List Chg}{b j:Nat}{X d:Array jc}{e:jy}(h:EC.At w v l)(f:w.heap[b]?=A (ic X e (0,0)))(g:w'.heap[b]?=A (ic d e (0,0)))(hk:∀k,k<w.heap.size->k≠b->w'.heap[k]?=w.heap[k]?)
 (k:∀i,i≠j->d[i]?=X[i]?) (a:∃p n c,X[j]?=A (T p n c)):EC.At w' v l:=by
 obtain⟨p,n,c,a⟩:=a;exact NT h (se f g k a hk)
theorem G1{g:Grp}{a:Int}{b:List Chg}{c init seed:LBy}{W:je}{D:Nat->Prop}{j M:Nat}{l e m n:jc}(d:g.last.length=32)(f:W.ownsRow j 49 5 l b.length (b.flatMap Chg.cells))(i:W.ownsRow M 3 1 e 10 ((dp c).map (jO .i64)))
 (o:iB D W m ((dI (aJ g.tree b) a).map (dZ g a b c seed))) (p:∃h,ap D W n 3 ((dk a b).map (fD g a b c init seed)).length (cG Wl.cells ((dk a b).map (fD g a b c init seed)) h)/\bR D W (((dk a b).map (fD g a b c init seed)).map Wl.body) h)
 (q:∀k,j<=k->k<W.heap.size->D k) (r:∀k,M<=k->k<W.heap.size->D k):ay D W (mk1 g a b c init seed) ⟨l,e,m,n⟩:=by
 refine⟨ap.of_own f (λg d=>q g (f.lt g d).1 (f.lt g d).2),?_,o,p,d,dy⟩;have h:=ap.of_own (D:=D) i (λg d=>r g (i.lt g d).1 (i.lt g d).2);show ap _ W e 1 (dp c).length _;rw[iO];exact h
theorem ay.conf{D:Nat->Prop}{W:je}{c:Cmt}{q:CQ}(h:ay D W c q){k:LBy}(hk:k.length=32):ay D W {c with confirm:=k} q:=⟨h.chg,h.path,h.box,h.wel,h.plen,hk⟩
theorem ay.rs{D:Nat->Prop}{W:je}{c:Cmt}{q:CQ}(h:ay D W c q)(r s:Int):ay D W {c with r:=r,s:=s} q:=⟨h.chg,h.path,h.box,h.wel,h.plen,h.clen⟩
theorem A8{g:Grp}{a:Int}{b:List Chg}{c init seed:LBy}{W:je}{D:Nat->Prop}{q:CQ}(h:ay D W (mk1 g a b c init seed) q):ay D W (mk2 g a b c init seed) q:=by
 unfold mk2;exact h.conf (oX _ _)
theorem NF{g:Grp}{a:Int}{x:Nat}{b:List Chg}{c init seed:LBy}{W:je}{D:Nat->Prop}{q:CQ}(h:ay D W (mk1 g a b c init seed) q):ay D W (mkC g a x b c init seed) q:=by
 unfold mkC;exact(A8 h).rs _ _
theorem ay.later{c:Cmt}{q:CQ}{n:Nat}{w w':je}(h:ay (λk=>n<=k/\k<w.heap.size) w c q)(b:jf w w w'):ay (λk=>n<=k/\k<w'.heap.size) w' c q:=
 (h.keep λg a=>b.block g a.2).mono λg a=>⟨a.1,jm a.2 b.size⟩
def kT(cs:Array jc):Nat->List jc->Array jc
 |_,[]=>cs
 |o,v::a=>kT (cs.setIfInBounds o v) (o+1) a
theorem zc:∀(d a c b:List jc),c.length=d.length->kT (a++c++b).toArray a.length d=(a++d++b).toArray
 |[],a,c,b,h=>by
  obtain rfl:c=[]:=List.eq_nil_of_length_eq_zero h
  rfl
 |v::d,a,[],b,h=>by simp at h
 |v::d,a,x::c,b,h=>by
  have e:(a++x::c++b).toArray.setIfInBounds a.length v=((a++[v])++c++b).toArray:=by
   apply lv
   rw[lw];show mb (a++x::c++b) a.length v=_;rw[oo,j4 _ _ (jq _),Nat.sub_self];simp
  rw[kT,e];have f:=zc d (a++[v]) c b (by simpa using h);rw[jG]at f;have g:kT ((a++[v])++c++b).toArray (a.length+1) d=(a++[v]++d++b).toArray:=f;rw[g];simp
theorem uQ{b:Nat}{t:jy}:∀(a:List jc) (o:Nat) (W:je) (cs:Array jc),W.heap[b]?=A (ic cs t (0,0))->(W.setCells b o a).heap[b]?=A (ic (kT cs o a) t (0,0))
 |[],o,W,cs,h=>h
 |v::a,o,W,cs,h=>uQ a (o+1) _ _ (iG v h)
theorem rz{b k:Nat}(hk:k≠b):∀(a:List jc) (o:Nat) (W:je),(W.setCells b o a).heap[k]?=W.heap[k]?
 |[],o,W=>rfl
 |v::a,o,W=>(rz hk a (o+1) (W.setCell ⟨b,o,ii⟩ v)).trans (fu v hk)
theorem setCells_size(b:Nat):∀(a:List jc) (o:Nat) (W:je),(W.setCells b o a).heap.size=W.heap.size
 |[],o,W=>rfl
 |v::a,o,W=>(setCells_size b a (o+1) (W.setCell ⟨b,o,ii⟩ v)).trans (ln _ _ _)
theorem KF(c:Cmt)(q:CQ)(k:LBy)(a:c.parent.length=32)(b:c.confirm.length=32)(d:k.length=32):kT (ah c q).toArray 39 (k.map v8)=(ah {c with confirm:=k} q).toArray:=by
 have e:∀x:LBy,ah {c with confirm:=x} q=(I N c.folder::I N c.epoch::(c.parent.map v8++[I N c.author,q.vc,q.vp,q.vb,q.vw]))++x.map v8++[I N c.r,I N c.s]:=λx=>by simp[ah]
 have h:=zc (k.map v8) (I N c.folder::I N c.epoch::(c.parent.map v8++[I N c.author,q.vc,q.vp,q.vb,q.vw])) (c.confirm.map v8) [I N c.r,I N c.s] (by simp[b,d]);have f:(jO .i64 c.folder::I N c.epoch::(c.parent.map v8++[I N c.author,q.vc,q.vp,q.vb,q.vw])).length=39:=by simp[a]
 rw[f,<-e,<-e]at h;exact h
theorem PO(c:Cmt)(q:CQ)(r s:Int)(a:c.parent.length=32)(b:c.confirm.length=32):kT (ah c q).toArray 71 [I N r,I N s]=(ah {c with r:=r,s:=s} q).toArray:=by
 have e:∀x y:Int,ah {c with r:=x,s:=y} q=(I N c.folder::I N c.epoch::(c.parent.map v8++([I N c.author,q.vc,q.vp,q.vb,q.vw]++c.confirm.map v8)))++[I N x,I N y]++[]:=λx y=>by simp[ah]
 have h:=zc [I N r,I N s] (I N c.folder::I N c.epoch::(c.parent.map v8++([I N c.author,q.vc,q.vp,q.vb,q.vw]++c.confirm.map v8))) [I N c.r,I N c.s] [] rfl;have d:(jO .i64 c.folder::I N c.epoch::(c.parent.map v8++([I N c.author,q.vc,q.vp,q.vb,q.vw]++c.confirm.map v8))).length=71:=by simp[a,b]
 rw[d,<-e,<-e]at h;exact h
theorem dx.conf{c:Cmt}(h:dx c){k:LBy}(hk:k.length=32):dx {c with confirm:=k}:=⟨h.ints,h.plen,hk,h.chg,h.path,h.box,h.wel⟩
theorem dx.rs{c:Cmt}(h:dx c){r s:Int}(a:IR r)(b:IR s):dx {c with r:=r,s:=s}:=⟨⟨h.ints.1,h.ints.2.1,h.ints.2.2.1,a,b⟩,h.plen,h.clen,h.chg,h.path,h.box,h.wel⟩
theorem LI(c:Cmt)(x y:Int)(l:c.r=0)(m:c.s=0):({({c with r:=x,s:=y}:Cmt)with r:=0,s:=0}:Cmt)=c:=by
 obtain⟨a,b,c,d,e,f,g,h,i,j,k⟩:=c;obtain rfl:j=0:=l;obtain rfl:k=0:=m
 rfl
theorem GT(c:Cmt)(x:LBy)(l:c.confirm=dj):({({c with confirm:=x}:Cmt)with confirm:=dj}:Cmt)=c:=by
 obtain⟨a,b,c,d,e,f,g,h,i,j,k⟩:=c;obtain rfl:i=dj:=l
 rfl
theorem Pt(g:Grp)(a:Int)(b:List Chg)(c init seed:LBy)(q:CQ):ah (mk1 g a b c init seed) q=ah (mk0 g a b c) q:=by simp only[ah,mk1,mk0]
theorem mj(g:Grp)(a:Int)(b:List Chg)(c init seed:LBy):(mk1 g a b c init seed).parent=g.last/\(mk1 g a b c init seed).confirm.length=32:=by
 unfold mk1;exact⟨rfl,dy⟩
theorem Ay(g:Grp)(a:Int)(c:List Chg)(b init seed:LBy):mk2 g a c b init seed={mk1 g a c b init seed with confirm:=pL (fF g b init) (cP sa ((aB (mk1 g a c b init seed)).take 8))}:=by unfold mk2;rfl
theorem DF(g:Grp)(a:Int)(x:Nat)(b:List Chg)(c init seed:LBy):mkC g a x b c init seed={mk2 g a b c init seed with r:=((kJ x (dm (mk2 g a b c init seed)):Nat):Int),s:=((k8 x (dm (mk2 g a b c init seed)):Nat):Int)}:=by unfold mkC;rfl
theorem zp(c:Cmt)(k:LBy):({c with confirm:=k}:Cmt).confirm=k/\({c with confirm:=k}:Cmt).parent=c.parent:=⟨rfl,rfl⟩
theorem mZ(g:Grp)(a:Int)(b:List Chg)(c init seed:LBy):(mk2 g a b c init seed).parent=g.last/\(mk2 g a b c init seed).confirm.length=32:=by
 rw[Ay,(zp _ _).1,(zp _ _).2];exact⟨(mj ..).1,oX _ _⟩
theorem Da(c:Cmt)(r s:Int):({c with r:=r,s:=s}:Cmt).confirm=c.confirm/\({c with r:=r,s:=s}:Cmt).parent=c.parent:=⟨rfl,rfl⟩
theorem zf(g:Grp)(a:Int)(x:Nat)(b:List Chg)(c init seed:LBy):(mkC g a x b c init seed).parent=g.last/\(mkC g a x b c init seed).confirm.length=32:=by
 rw[DF,(Da _ _ _).1,(Da _ _ _).2];exact mZ ..
theorem Jr{g:Grp}{a:Int}{x:Nat}{b:List Chg}{c init seed:LBy}(h:dx (mkC g a x b c init seed)):dx (mk1 g a b c init seed)/\dx (mk2 g a b c init seed):=by
 have z:IR 0:=⟨by decide,by decide⟩;have e:dx (mk2 g a b c init seed):=by
  have d:=h.rs z z;unfold mkC at d;rw[LI _ _ _ rfl rfl]at d;exact d
 have d:=e.conf dy;unfold mk2 at d;rw[GT _ _ rfl]at d;exact⟨d,e⟩
theorem sX{p q:Prop}(k:q)(h:q->p:=by intro k;refine az (v:=?_) rfl ag (λW' hS=>?_) ?_;rotate_left;(have b0:=cell_of (i:=1) hS.1 rfl;have b1:=cell_of (i:=2) hS.1 rfl;clear hS;go_simp;with_reducible rfl);refine G ?_;exact k):p:=h k
theorem Eb(g:Grp)(vm vt vl:jc)(a x:Int)(m:List Chg)(z init seed:LBy)(w:je)(h:bQ w g vm vt)(ad:ap (·<w.heap.size) w vl 5 m.length (m.flatMap Chg.cells))
 (a3:z.length=32) (a4:init.length=32) (e5:seed.length=32) (hT:iF w) (U:fN w) (bf:g.mem.length<=900000) (bg:g.tree.length<=600000) (D:m.length<=1000000):
 jj jd 10 #[jb (aA g vm vt).toArray,I N a,I N x,vl,jb (z.map v8).toArray,jb (init.map v8).toArray,jb (seed.map v8).toArray] w (LG g a x m z init seed (lz g a x m) w):=by
 obtain⟨er,a5⟩:=J (lz g a x m);rw[<-a5];have g2:=O a5;have ba:=kI (vm:=vm) (vt:=vt) h.llen;have Rh:=kF (vm:=vm) (vt:=vt) h.llen;have bb:∀(w:je) (b:Nat),w.heap[b]?=A (ic (aA g vm vt).toArray 29 (0,0))->w.rangeAt b 2 (g.last.map v8):=λw b hb=>cV.last ⟨hb,h.llen⟩
 have HN:ih (∀W,bQ W g vm vt->EC.At W vl m->jj jd 12 #[jb (aA g vm vt).toArray,I N a,vl] W λe w'=>∃aa,e=jh (jv #[aa,I N (cD g a m)])/\w'.ownsRow W 74 4 aa (dh g a m).length (EB0.flat (dh g a m))/\jf W W w'):=O (λW hW hL=>tj g vm vt _ _ _ W hW hL Y Y D);have fe:ih (∀W,co g->dG m->eV g a m->bQ W g vm vt->EC.At W vl m->jj jd 29 #[jb (aA g vm vt).toArray,I N a,vl] W λe w'=>e=jh (I N (dt g a m))/\jf W W w'):=O (λW hv hf hp hW hL=>Di g vm vt _ _ _ W hW (r5 hv) Y hL (λhn=>by
  have c:=hp.own;rw[hn]at c;obtain⟨x,r,h1,-⟩:=hp.first (by have:=hv.ep.1;have h2:=of_decide_eq_false c.symm;omega);rw[h1];simp))
 have VG:ih (∀W,dG m->bQ W g vm vt->EC.At W vl m->jj jd 32 #[jb (aA g vm vt).toArray,vl] W λe w'=>∃aa,e=jh (jb #[aa])/\aT w' aa (aJ g.tree m)/\jf W W w'):=O (λW hf hW hL=>uC g vm vt _ _ W hW hf Y hL);obtain⟨al,M⟩:=J ((aA g vm vt).toArray);obtain⟨Qw,hL⟩:=J ((z.map v8).toArray);obtain⟨bl,Q⟩:=J ((init.map v8).toArray);obtain⟨S,X⟩:=J ((seed.map v8).toArray);have c:∀(l:LBy),l.length=32->(jd.info? 53).map (·.size)=A (l.map v8).toArray.size:=λl D=>by rw[jp,jk,D];kernel_rfl
 have TA:ih ((jd.info? 53).map (·.size)=A Qw.size):=O (by rw[hL];exact c _ a3);have hZ:ih ((jd.info? 53).map (·.size)=A bl.size):=O (by rw[Q];exact c _ a4);have g3:ih ((jd.info? 53).map (·.size)=A S.size):=O (by rw[X];exact c _ e5);rw[<-M]at ba HN fe VG bb⊢;rw[<-hL,<-Q,<-X];clear c;obtain⟨x0,k⟩:=J (((((((w.alloc (ic al 29)).alloc (ic Qw 53)).alloc (ic bl 53)).alloc (ic S 53)).alloc (ic Tryz.zeroCells37 37)).alloc (ic aI 53)));obtain⟨t,hG⟩:=J w.heap.size;have i:=ji w (ic al 29);have c:=af w (ic al 29);have a1:=ji (w.alloc (ic al 29)) (ic Qw 53);have d:=af (w.alloc (ic al 29)) (ic Qw 53);have Rs:=ji ((w.alloc (ic al 29)).alloc (ic Qw 53)) (ic bl 53);have j:=af ((w.alloc (ic al 29)).alloc (ic Qw 53)) (ic bl 53);have o:=ji (((w.alloc (ic al 29)).alloc (ic Qw 53)).alloc (ic bl 53)) (ic S 53);have q:=af (((w.alloc (ic al 29)).alloc (ic Qw 53)).alloc (ic bl 53)) (ic S 53);have C:=ji ((((w.alloc (ic al 29)).alloc (ic Qw 53)).alloc (ic bl 53)).alloc (ic S 53)) (ic Tryz.zeroCells37 37);have s:=af ((((w.alloc (ic al 29)).alloc (ic Qw 53)).alloc (ic bl 53)).alloc (ic S 53)) (ic Tryz.zeroCells37 37);have cA:=ji (((((w.alloc (ic al 29)).alloc (ic Qw 53)).alloc (ic bl 53)).alloc (ic S 53)).alloc (ic Tryz.zeroCells37 37)) (ic aI 53);have v:=af (((((w.alloc (ic al 29)).alloc (ic Qw 53)).alloc (ic bl 53)).alloc (ic S 53)).alloc (ic Tryz.zeroCells37 37)) (ic aI 53);replace i:=av i d;replace i:=av i j;replace i:=av i q;replace i:=av i s;replace i:=av i v;rw[js]at a1;replace a1:=av a1 j;replace a1:=av a1 q;replace a1:=av a1 s;replace a1:=av a1 v;rw[js,js]at Rs;replace Rs:=av Rs q;replace Rs:=av Rs s;replace Rs:=av Rs v;rw[js,js,js]at o;replace o:=av o s;replace o:=av o v;rw[js,js,js,js]at C;replace C:=av C v;rw[js,js,js,js,js]at cA;have hB:=(((((c).trans (d.mono (c).size)).trans (j.mono ((c).trans (d.mono (c).size)).size)).trans (q.mono (((c).trans (d.mono (c).size)).trans (j.mono ((c).trans (d.mono (c).size)).size)).size)).trans (s.mono ((((c).trans (d.mono (c).size)).trans (j.mono ((c).trans (d.mono (c).size)).size)).trans (q.mono (((c).trans (d.mono (c).size)).trans (j.mono ((c).trans (d.mono (c).size)).size)).size)).size)).trans (v.mono (((((c).trans (d.mono (c).size)).trans (j.mono ((c).trans (d.mono (c).size)).size)).trans (q.mono (((c).trans (d.mono (c).size)).trans (j.mono ((c).trans (d.mono (c).size)).size)).size)).trans (s.mono ((((c).trans (d.mono (c).size)).trans (j.mono ((c).trans (d.mono (c).size)).size)).trans (q.mono (((c).trans (d.mono (c).size)).trans (j.mono ((c).trans (d.mono (c).size)).size)).size)).size)).size);rw[<-k]at hB;rw[<-k,<-hG]at i;rw[<-k,<-hG]at a1;rw[<-k,<-hG]at Rs;rw[<-k,<-hG]at o;rw[<-k,<-hG]at C;rw[<-k,<-hG]at cA;have Rl:=O i;have YV:=O a1;have a2:=O Rs;have RU:=O o;have P:=O C;have H:=O cA;have V:=O hB;have HW:=O k;have HG:=O hG;have fm:=O h;have Yg:=O ad;obtain⟨Qr,F⟩:∃y:Array jc,y=Tryz.zeroCells37:=⟨_,rfl⟩;obtain⟨K,u⟩:∃y:Array jc,y=aI:=⟨_,rfl⟩;have WL:ih ((ah dP fk).toArray=Qr):=O (by rw[F];rfl);have ZO:ih ((dj.map v8).toArray=K):=O (by rw[u];rfl);have QH:ih ((jd.info? 37).map (·.size)=A Qr.size):=O (by rw[F];kernel_rfl);have ZD:ih ((jd.info? 53).map (·.size)=A K.size):=O (by rw[u];kernel_rfl);have Y8:ih (Qr.all (·.oneCell')=true):=O (by rw[F];kernel_rfl);have SK:ih (K.all (·.oneCell')=true):=O (by rw[u];kernel_rfl);replace P:ih (x0.heap[(t+1+1+1+1)]?=A (ic Qr 37 (0,0))):=O (by rw[F];exact P);replace H:ih (x0.heap[(t+1+1+1+1+1)]?=A (ic K 53 (0,0))):=O (by rw[u];exact H);have Tj:=O ba;have hz:=O bb;have g4:=O hT;have Rp:=O U;have Zw:=O bf;have T6:=O bg;have e6:=O D;have R2:=O a3;have UQ:=O a4;have g5:=O e5;have Tg:=O h.llen;have b8:ih (al[0]?=A (I N g.folder)/\al[1]?=A (I N g.epoch)):=O (by rw[M];have:=Rh;exact⟨by simpa using this.1,by simpa using this.2.1⟩);have Tq:=O M;have hD:=O hL;have g6:=O Q;have g7:=O X;obtain⟨pc,nc,R,Uj⟩:∃p n c',vl=T p n c':=by obtain⟨p,c',h⟩:=ad.form;exact⟨p,_,c',h⟩
 subst Uj;obtain⟨ep,bc⟩:=J g.epoch;obtain⟨fd,Wm⟩:=J g.folder;rw[<-bc,<-Wm]at b8;have SJ:=O bc;have hE:=O Wm;have Zf:=O (uD g a m);obtain⟨ne,bd⟩:=J (cD g a m);rw[<-bd]at HN Zf;have cL:=O bd;clear h ad a3 a4 e5 hT U bf bg D a5 ba Rh bb M hL Q X F u bc Wm bd;clear hB k hG i c a1 d Rs j o q C s cA v
 go_enter func10,ntmps10
 go_upto_region 1 with fail
 rw[<-HW,<-HG];have cX:ih ((t+1+1+1+1+1)<x0.heap.size):=O (jC.1 H).1;have k:=cell_of Rl b8.2
 by_cases h1:1099511627776<=ep
 case pos=>
  have g8:decide (1099511627776<=ep)=true:=by simpa using h1
  have c:ih (er=1):=O (by rw[g2];unfold lz;rw[if_pos (by rw[<-SJ];exact h1)]);clear h1
  go_upto_region 2 with fail
  refine jF ?_;refine bi (λF=>F.heap[(t+1+1+1+1)]?=A (ic Qr 37 (0,0))/\F.heap[(t+1+1+1+1+1)]?=A (ic K 53 (0,0))) (.take 0 (.take 1 (.one 2 (.one 3 (.take 4 .done))))) ae ae ae L (λ_ _ _ _ h=>h) ⟨P,H⟩ ?_;obtain⟨e0,Qs⟩:=J x0.drew;have d:=aP x0;rw[<-Qs]at d⊢;have Te:=Z P d;have Tf:=Z H d;have Sl:=ac V d;clear d Qs P H V;have P:=Te;clear Te;have H:=Tf;clear Tf;have V:=Sl;clear Sl
  (refine az (v:=jb Qr) rfl ag (λF U=>aY jr rfl QH rfl rfl U.1) ?_;refine G ?_)
  (refine az (v:=jb K) rfl ag (λF U=>aY jB rfl ZD rfl rfl U.2) ?_;refine G ?_)
  refine ai rfl (λK' u=>?_);rw[if_pos ag];refine jn 37 _ _ rfl (t+1+1+1+1) Qr rfl rfl 37 _ P.out QH rfl Y8 ?_;rw[du P];refine u _ _ ⟨P,H⟩ λ_=>?_
  clear u;refine G ?_;refine ai rfl (λK' u=>?_);rw[if_pos ag];refine jn 53 _ _ rfl (t+1+1+1+1+1) K rfl rfl 53 _ H.out ZD rfl SK ?_;rw[du H];refine u _ _ ⟨P,H⟩ λ_=>?_
  clear u;refine G ?_;refine aC ?_;refine jE ?_
  go_wp2_with fail
  exact jQ (nU rfl _ _ (t+1+1+1+1) (t+1+1+1+1+1) 37 53 Qr K (0,0) (0,0) _ _ rfl rfl P H jr rfl QH jB rfl ZD) rfl ⟨λh=>absurd (c.symm.trans h) L,λ_=>by rw[WL,ZO,c];kernel_rfl,V⟩
 have g8:decide (1099511627776<=ep)=false:=by simpa using h1
 have hB:ep<1099511627776:=Y;have i:ih (er=if cD g a m≠0 then cD g a m else if x<1\/2305843009213688669<=x then 50 else if((aG 4 x.toNat:Nat):Int)≠dt g a m then 221 else 0):=O (by rw[g2];unfold lz;rw[if_neg (by rw[<-SJ];exact h1)]);clear h1
 go_upto_region 3 with fail
 clear g8 k;refine jo ?_;refine jS rfl 29 _ rfl t rfl 29 al (0,0) _ Rl.out jR rfl Tj ?_
 go_wp2_with fail
 refine(HN x0 (fm.below V) ((EK.At.of_sl (E:=EC) Yg).below V)).mono ?_;rintro e x1 ⟨aa,rfl,hu,d⟩;have q:=O hu;clear hu;have s:=Z Rl d;have WE:=Z YV d;have Q7:=Z a2 d;have Q5:=Z RU d;have QD:=Z P d;have QG:=Z H d;have Qj:=ac V d;clear Rl YV a2 RU P H V;clear d;obtain⟨pu,hF,rfl⟩:=aO q;obtain⟨nu,j⟩:=J ((dh g a m).length);rw[<-j]at q⊢;have g9:=O j;clear j
 rcases Zf.out with⟨-,C⟩|⟨-,-,C⟩|⟨hv,hf,hp,C⟩
 case inl=>
  have c:ih (er=1):=O (by rw[i,<-cL,C];rfl);subst C;clear q
  go_upto_region 5 with fail
  refine jF ?_;refine bi (λF=>F.heap[(t+1+1+1+1)]?=A (ic Qr 37 (0,0))/\F.heap[(t+1+1+1+1+1)]?=A (ic K 53 (0,0))) (.take 0 (.take 1 (.take 2 (.one 3 (.one 4 (.take 5 .done)))))) ae ae ae L (λ_ _ _ _ h=>h) ⟨QD,QG⟩ ?_;obtain⟨e0,Qs⟩:=J x1.drew;have d:=aP x1;rw[<-Qs]at d⊢;have Te:=Z QD d;have Tf:=Z QG d;have Sl:=ac Qj d;clear d Qs QD QG Qj;have P:=Te;clear Te;have H:=Tf;clear Tf;have V:=Sl;clear Sl
  (refine az (v:=jb Qr) rfl ag (λF U=>aY jr rfl QH rfl rfl U.1) ?_;refine G ?_)
  (refine az (v:=jb K) rfl ag (λF U=>aY jB rfl ZD rfl rfl U.2) ?_;refine G ?_)
  refine aC ?_;refine ai rfl (λK' u=>?_);rw[if_pos ag];refine jn 37 _ _ rfl (t+1+1+1+1) Qr rfl rfl 37 _ P.out QH rfl Y8 ?_;rw[du P];refine u _ _ ⟨P,H⟩ λ_=>?_
  clear u;refine G ?_;refine ai rfl (λK' u=>?_);rw[if_pos ag];refine jn 53 _ _ rfl (t+1+1+1+1+1) K rfl rfl 53 _ H.out ZD rfl SK ?_;rw[du H];refine u _ _ ⟨P,H⟩ λ_=>?_
  clear u;refine G ?_;refine aC ?_;refine jE ?_
  go_wp2_with fail
  exact jQ (nU rfl _ _ (t+1+1+1+1) (t+1+1+1+1+1) 37 53 Qr K (0,0) (0,0) _ _ rfl rfl P H jr rfl QH jB rfl ZD) rfl ⟨λh=>absurd (c.symm.trans h) L,λ_=>by rw[WL,ZO,c];kernel_rfl,V⟩
 case inr.inl=>
  have c:ih (er=221):=O (by rw[i,<-cL,C];rfl);subst C;clear q
  go_upto_region 5 with fail
  refine jF ?_;refine bi (λF=>F.heap[(t+1+1+1+1)]?=A (ic Qr 37 (0,0))/\F.heap[(t+1+1+1+1+1)]?=A (ic K 53 (0,0))) (.take 0 (.take 1 (.take 2 (.one 3 (.one 4 (.take 5 .done)))))) ae ae ae L (λ_ _ _ _ h=>h) ⟨QD,QG⟩ ?_;obtain⟨e0,Qs⟩:=J x1.drew;have d:=aP x1;rw[<-Qs]at d⊢;have Te:=Z QD d;have Tf:=Z QG d;have Sl:=ac Qj d;clear d Qs QD QG Qj;have P:=Te;clear Te;have H:=Tf;clear Tf;have V:=Sl;clear Sl
  (refine az (v:=jb Qr) rfl ag (λF U=>aY jr rfl QH rfl rfl U.1) ?_;refine G ?_)
  (refine az (v:=jb K) rfl ag (λF U=>aY jB rfl ZD rfl rfl U.2) ?_;refine G ?_)
  refine aC ?_;refine ai rfl (λK' u=>?_);rw[if_pos ag];refine jn 37 _ _ rfl (t+1+1+1+1) Qr rfl rfl 37 _ P.out QH rfl Y8 ?_;rw[du P];refine u _ _ ⟨P,H⟩ λ_=>?_
  clear u;refine G ?_;refine ai rfl (λK' u=>?_);rw[if_pos ag];refine jn 53 _ _ rfl (t+1+1+1+1+1) K rfl rfl 53 _ H.out ZD rfl SK ?_;rw[du H];refine u _ _ ⟨P,H⟩ λ_=>?_
  clear u;refine G ?_;refine aC ?_;refine jE ?_
  go_wp2_with fail
  exact jQ (nU rfl _ _ (t+1+1+1+1) (t+1+1+1+1+1) 37 53 Qr K (0,0) (0,0) _ _ rfl rfl P H jr rfl QH jB rfl ZD) rfl ⟨λh=>absurd (c.symm.trans h) L,λ_=>by rw[WL,ZO,c];kernel_rfl,V⟩
 have o:ih (er=if x<1\/2305843009213688669<=x then 50 else if((aG 4 x.toNat:Nat):Int)≠dt g a m then 221 else 0):=O (by rw[i,<-cL,C];rfl);subst C;have j:co g:=by
  by_cases C:co g
  ·exact C
  rw[gG C]at hv;cases hv
 have WI:=O j;have Vb:=O (mw.1 hf);have fo:=O (pY.1 hp);have Td:ih (dh g a m=dI (aJ g.tree m) a):=O (rH cL.symm);have h0:0<=ep:=by rw[SJ];exact j.ep.1
 have Vn:=O (tf j Vb fo);clear hv hf hp j i Zf
 by_cases c5:iu x
 case neg=>
  have c:ih (er=50):=O (by rw[o,if_pos (by unfold iu at c5;omega)]);have i:=O (FN x c5);clear c5 q
  go_wp2_with fail
  refine(i x1).mono ?_;rintro e x2 ⟨rfl,rfl⟩
  go_upto_region 8 with fail
  refine jF ?_;refine bi (λF=>F.heap[(t+1+1+1+1)]?=A (ic Qr 37 (0,0))/\F.heap[(t+1+1+1+1+1)]?=A (ic K 53 (0,0))) (.take 0 (.take 1 (.take 2 (.one 3 (.one 4 (.take 5 .done)))))) ae ae ae L (λ_ _ _ _ h=>h) ⟨QD,QG⟩ ?_;obtain⟨e0,Qs⟩:=J x1.drew;have d:=aP x1;rw[<-Qs]at d⊢;have Te:=Z QD d;have Tf:=Z QG d;have Sl:=ac Qj d;clear d Qs QD QG Qj;have P:=Te;clear Te;have H:=Tf;clear Tf;have V:=Sl;clear Sl
  (refine az (v:=jb Qr) rfl ag (λF U=>aY jr rfl QH rfl rfl U.1) ?_;refine G ?_)
  (refine az (v:=jb K) rfl ag (λF U=>aY jB rfl ZD rfl rfl U.2) ?_;refine G ?_)
  refine aC ?_;refine ai rfl (λK' u=>?_);rw[if_pos ag];refine jn 37 _ _ rfl (t+1+1+1+1) Qr rfl rfl 37 _ P.out QH rfl Y8 ?_;rw[du P];refine u _ _ ⟨P,H⟩ λ_=>?_
  clear u;refine G ?_;refine ai rfl (λK' u=>?_);rw[if_pos ag];refine jn 53 _ _ rfl (t+1+1+1+1+1) K rfl rfl 53 _ H.out ZD rfl SK ?_;rw[du H];refine u _ _ ⟨P,H⟩ λ_=>?_
  clear u;refine G ?_;refine aC ?_;refine jE ?_
  go_wp2_with fail
  exact jQ (nU rfl _ _ (t+1+1+1+1) (t+1+1+1+1+1) 37 53 Qr K (0,0) (0,0) _ _ rfl rfl P H jr rfl QH jB rfl ZD) rfl ⟨λh=>absurd (c.symm.trans h) L,λ_=>by rw[WL,ZO,c];kernel_rfl,V⟩
 obtain⟨X,hX⟩:=ob (show 0<=x by have:=c5.1;omega);have YZ:=O hX;obtain⟨i,j⟩:=c5;subst hX;have Sb:ih (1<=X/\X<2305843009213688669):=O ⟨by omega,by omega⟩;have TK:ih (er=if((aG 4 X:Nat):Int)≠dt g a m then 221 else 0):=O (by rw[o,if_neg Y];rfl);clear i j o
 go_wp2_with fail
 refine(sP X Sb.1 Sb.2 x1).mono ?_;rintro e x2 ⟨rfl,d⟩;have i:=Z s d;have D:=Z WE d;have M:=Z Q7 d;have QM:=Z Q5 d;have QE:=Z QD d;have QR:=Z QG d;have Qk:=ac Qj d;have c6:=aE q d;clear s WE Q7 Q5 QD QG Qj q;clear d;obtain⟨vk,j⟩:=J (dt g a m);obtain⟨pb,c7⟩:∃y:Int,y=((aG 4 X:Nat):Int):=⟨_,rfl⟩;rw[<-j]at fe TK;rw[<-c7]at TK⊢;have Sw:=O j;have hH:=O c7;clear j c7
 go_upto_region 9 with fail
 refine jo ?_;refine aL ?_;refine jS rfl 29 _ rfl t rfl 29 al (0,0) _ i.out jR rfl Tj ?_;refine G ?_
 go_wp2_with fail
 refine(fe x2 WI Vb fo (fm.below Qk) ((EK.At.of_sl (E:=EC) Yg).below Qk)).mono ?_;rintro e x3 ⟨rfl,d⟩;have RF:=Z i d;have UR:=Z D d;have o:=Z M d;have RI:=Z QM d;have QW:=Z QE d;have QZ:=Z QR d;have Qp:=ac Qk d;have US:=aE c6 d;clear i D M QM QE QR Qk c6;clear d
 by_cases h2:pb=vk
 case neg=>
  have e7:(pb !=vk)=true:=by simpa using h2
  have e8:(pb==vk)=false:=by simpa using h2
  have c:ih (er=221):=O (by rw[TK,if_pos h2]);clear h2 US
  go_upto_region 10 with fail
  refine jF ?_;refine bi (λF=>F.heap[(t+1+1+1+1)]?=A (ic Qr 37 (0,0))/\F.heap[(t+1+1+1+1+1)]?=A (ic K 53 (0,0))) (.take 0 (.take 1 (.one 2 (.one 3 (.take 4 .done))))) ae ae ae L (λ_ _ _ _ h=>h) ⟨QW,QZ⟩ ?_;obtain⟨e0,Qs⟩:=J x3.drew;have d:=aP x3;rw[<-Qs]at d⊢;have Te:=Z QW d;have Tf:=Z QZ d;have Sl:=ac Qp d;clear d Qs QW QZ Qp;have P:=Te;clear Te;have H:=Tf;clear Tf;have V:=Sl;clear Sl
  (refine az (v:=jb Qr) rfl ag (λF U=>aY jr rfl QH rfl rfl U.1) ?_;refine G ?_)
  (refine az (v:=jb K) rfl ag (λF U=>aY jB rfl ZD rfl rfl U.2) ?_;refine G ?_)
  refine ai rfl (λK' u=>?_);rw[if_pos ag];refine jn 37 _ _ rfl (t+1+1+1+1) Qr rfl rfl 37 _ P.out QH rfl Y8 ?_;rw[du P];refine u _ _ ⟨P,H⟩ λ_=>?_
  clear u;refine G ?_;refine ai rfl (λK' u=>?_);rw[if_pos ag];refine jn 53 _ _ rfl (t+1+1+1+1+1) K rfl rfl 53 _ H.out ZD rfl SK ?_;rw[du H];refine u _ _ ⟨P,H⟩ λ_=>?_
  clear u;refine G ?_;refine aC ?_;refine jE ?_
  go_wp2_with fail
  exact jQ (nU rfl _ _ (t+1+1+1+1) (t+1+1+1+1+1) 37 53 Qr K (0,0) (0,0) _ _ rfl rfl P H jr rfl QH jB rfl ZD) rfl ⟨λh=>absurd (c.symm.trans h) L,λ_=>by rw[WL,ZO,c];kernel_rfl,V⟩
 have e7:(pb !=vk)=false:=by simpa using h2
 have e8:(pb==vk)=true:=by simpa using h2
 have T1:ih (er=0):=O (by rw[TK,if_neg (λhn=>hn h2)]);have hI:ih (dt g a m=(aG 4 X:Nat)):=O (by rw[<-Sw,<-h2,hH]);clear h2;have k:=cell_of RF b8.2;obtain⟨ix,c⟩:=J (if g.epoch=0 then dj else init);obtain⟨IX,i⟩:=J ((ix.map v8).toArray);have j:ix.length=32:=by rw[c];split;exact dy;exact UQ
 have hJ:=O j;have bk:=O c;have bn:=O i;have fv:ih ((jd.info? 53).map (·.size)=A IX.size):=O (by rw[i,jp,jk,j];kernel_rfl);clear j
 go_upto_if 69 with fail
 go_cut []from 69 (λj=>j=x3.setRow (t+1+1) IX)
 case first=>
  by_cases j:ep=0
  ·have D:(ep==0)=true:=by simpa using j
   have M:IX=(dj.map v8).toArray:=by rw[i,c,if_pos (by rw[<-SJ];exact j)]
   have Q:ih ((dj.map v8).toArray.all (·.oneCell')=true):=O (dB _);have ad:ih (bl.size=(dj.map v8).toArray.size):=O (by rw[g6,jp,jk,jp,jk,UQ,dy]);rw[M]at fv;have a3:=O M;clear j M i c
   try rw[D]
   go_upto_region 12 with fail
   refine jo ?_;refine bz (v:=jb (dj.map v8).toArray) ag (KL rfl _) ?_;refine jg rfl λ_ u=>jn 53 _ _ rfl (t+1+1) (dj.map v8).toArray rfl rfl 53 _ o.out fv ad Q (u _ _ ?_)
   refine G ?_
   go_wp2_with fail
   go_meet
   rw[a3]
  have D:(ep==0)=false:=by simpa using j
  have M:IX=bl:=by rw[i,c,if_neg (by rw[<-SJ];exact j),g6]
  have Q:=O M;clear j M i c
  try rw[D]
  go_wp2_with fail
  go_meet
  rw[Q];exact(du o).symm
 subst hcut;clear i c e7 e8 k;have c:ih ((x3.setRow (t+1+1) IX).heap[t]?=A (ic al 29 (0,0))):=O ((jt _ _ _ _ (by first|omega|(have:=Un.out;omega))).trans RF);have D:ih ((x3.setRow (t+1+1) IX).heap[t+1]?=A (ic Qw 53 (0,0))):=O ((jt _ _ _ _ (by first|omega|(have:=Un.out;omega))).trans UR);have M:ih ((x3.setRow (t+1+1) IX).heap[t+1+1]?=A (ic IX 53 (0,0))):=O (ju _ _ _ _ _ _ o.out);have Q:ih ((x3.setRow (t+1+1) IX).heap[t+1+1+1]?=A (ic S 53 (0,0))):=O ((jt _ _ _ _ (by first|omega|(have:=Un.out;omega))).trans RI);have Wr:ih ((x3.setRow (t+1+1) IX).heap[(t+1+1+1+1)]?=A (ic Qr 37 (0,0))):=O ((jt _ _ _ _ (by first|omega|(have:=Un.out;omega))).trans QW);have Wt:ih ((x3.setRow (t+1+1) IX).heap[(t+1+1+1+1+1)]?=A (ic K 53 (0,0))):=O ((jt _ _ _ _ (by first|omega|(have:=Un.out;omega))).trans QZ);have Ws:ih (jf w w (x3.setRow (t+1+1) IX)):=O (jA Qp.out (by rw[HG];omega) _);have ad:=O (lC (w':=(x3.setRow (t+1+1) IX)) US (λk hk=>jt _ _ _ _ (aw cX)));generalize(x3.setRow (t+1+1) IX)=x4 at c D M Q Wr Wt Ws ad⊢;clear RF UR o RI QW QZ Qp US;have TG:=c;clear c;have o:=D;clear D;have a4:=M;clear M;have Se:=Q;clear Q;have RG:=Wr;clear Wr;have RQ:=Wt;clear Wt;have Qt:=Ws;clear Ws;have a5:=ad;clear ad
 go_upto_region 13 with fail
 refine jo ?_;refine jS rfl 53 _ rfl (t+1) rfl 53 Qw (0,0) _ o.out jB rfl TA ?_;have a3:ih (∀W,cF W->jj jd 15 #[jb Qw] W λe w'=>∃v,e=jh v/\w'.ownsRow W 53 32 v 10 (fA (fj z 10))/\jf W W w'):=O (by rw[hD];exact λW hW=>AA z R2 W hW)
 go_wp2_with fail
 refine(a3 x4 (Rp.dig.below Qt)).mono ?_;rintro e x5 ⟨v,rfl,hv,d⟩;obtain⟨gl,cl,LC,rfl,h6,ba,bb,Ud⟩:=ET hv L;have c8:=O bb;have Un:ih (t+6<=gl):=O (by have h5:=(jC.1 RQ).1;have:=ba;omega);have e9:ih (∀i j aa,i<10->((bU z i).map v8)[j]?=A aa->LC[i*32+j]?=A aa):=O (λi j aa hi hj=>Ud _ _ (D7 z R2 10 i j hi aa hj));clear hv bb Ud ba a3;have VI:=Z TG d;have bc:=Z o d;have a3:=Z a4 d;have Vo:=Z Se d;have Vv:=Z RG d;have TX:=Z RQ d;have Qy:=ac Qt d;have bd:=aE a5 d;clear TG o a4 Se RG RQ Qt a5;clear d;obtain⟨RL,a4⟩:=J (((bU z 9).map v8).toArray);obtain⟨SA,o⟩:=J (((fF g z init).map v8).toArray);have bo:ih (∀W,fN W->jj jd 19 #[jb IX,jb RL] W λe w'=>e=jh (jb SA)/\jf W W w'):=O (by
  rw[bn,a4,o];unfold fF;rw[<-bk];exact λW hW=>DK ix (bU z 9) hJ (en z R2 9) W hW)
 have c9:ih ((jd.info? 53).map (·.size)=A SA.size):=O (by rw[o,jp,jk,kz];kernel_rfl);have hK:ih (K.size=SA.size):=O (by rw[o,<-ZO,jp,jk,jp,jk,kz,dy]);have ha:ih (SA.all (·.oneCell')=true):=O (by rw[o];exact dB _);have bq:=O a4;have ga:=O o;have bs:ih ((jd.info? 53).map (·.size)=A ((bU z 9).map v8).length):=O (by rw[jk,en z R2];kernel_rfl);clear a4 o
 go_upto_region 14 with fail
 refine jF ?_;refine bi (λF=>F.heap[t+1+1]?=A (ic IX 53 (0,0))/\F.heap[gl]?=A (ic LC 53 (0,0))) (.take 0 (.take 1 (.take 2 (.take 3 (.one 4 (.one 5 .done)))))) ae ae ae L (λ_ _ _ _ h=>h) ⟨a3,c8⟩ ?_;obtain⟨y0,Qs⟩:=J x5.drew;have d:=aP x5;rw[<-Qs]at d⊢;have VF:=Z VI d;have a4:=Z bc d;have ba:=Z a3 d;have br:=Z Vo d;have Te:=Z Vv d;have Tf:=Z TX d;have Sl:=ac Qy d;have bb:=aE bd d;have b2:=Z c8 d;clear d Qs VI bc a3 Vo Vv TX Qy bd c8;have Rl:=VF;clear VF;have YV:=a4;clear a4;have a2:=ba;clear ba;have RU:=br;clear br;have P:=Te;clear Te;have H:=Tf;clear Tf;have V:=Sl;clear Sl;have Yn:=bb;clear bb;have bm:=b2;clear b2
 (refine az (v:=jb IX) rfl ag (λF U=>aY jB rfl fv rfl rfl U.1) ?_;refine G ?_)
 iterate 2 refine aC ?_
 (refine az (v:=jb RL) rfl ag (λF U=>by rw[bq];exact m9 jB rfl bs rfl rfl (rc (o:=288) U.2 (λj aa hj=>e9 9 j aa L hj))) ?_;refine G ?_)
 refine ai rfl (λK' u=>?_);go_simp;refine(bo y0 (Rp.below V)).mono ?_;rintro e y1 ⟨rfl,d⟩;have s:=Z Rl d;have WE:=Z YV d;have Q7:=Z a2 d;have Q5:=Z RU d;have QD:=Z P d;have QG:=Z H d;have Qj:=ac V d;have q:=aE Yn d;have Vy:=Z bm d;clear Rl YV a2 RU P H V Yn bm;clear d;refine u _ _ ⟨Q7,Vy⟩ λ_=>?_
 clear u;refine G ?_;refine ai rfl (λK' u=>?_);rw[if_pos ag];refine jn 53 _ _ rfl (t+1+1+1+1+1) SA rfl rfl 53 _ QG.out c9 hK ha ?_;refine u _ _ ⟨(jt _ _ _ _ Y).trans Q7,(jt _ _ _ _ (aw Un)).trans Vy⟩ λ_=>?_
 clear u;have c:ih ((y1.setRow (t+1+1+1+1+1) SA).heap[t]?=A (ic al 29 (0,0))):=O ((jt _ _ _ _ (by first|omega|(have:=Un.out;omega))).trans s);have D:ih ((y1.setRow (t+1+1+1+1+1) SA).heap[t+1]?=A (ic Qw 53 (0,0))):=O ((jt _ _ _ _ (by first|omega|(have:=Un.out;omega))).trans WE);have M:ih ((y1.setRow (t+1+1+1+1+1) SA).heap[t+1+1]?=A (ic IX 53 (0,0))):=O ((jt _ _ _ _ (by first|omega|(have:=Un.out;omega))).trans Q7);have Q:ih ((y1.setRow (t+1+1+1+1+1) SA).heap[t+1+1+1]?=A (ic S 53 (0,0))):=O ((jt _ _ _ _ (by first|omega|(have:=Un.out;omega))).trans Q5);have Wr:ih ((y1.setRow (t+1+1+1+1+1) SA).heap[(t+1+1+1+1)]?=A (ic Qr 37 (0,0))):=O ((jt _ _ _ _ (by first|omega|(have:=Un.out;omega))).trans QD);have Wt:ih ((y1.setRow (t+1+1+1+1+1) SA).heap[(t+1+1+1+1+1)]?=A (ic SA 53 (0,0))):=O (ju _ _ _ _ _ _ QG.out);have Ws:ih (jf w w (y1.setRow (t+1+1+1+1+1) SA)):=O (jA Qj.out (by rw[HG];omega) _);have ad:=O (lC (w':=(y1.setRow (t+1+1+1+1+1) SA)) q (λk hk=>jt _ _ _ _ (aw cX)));have a3:ih ((y1.setRow (t+1+1+1+1+1) SA).heap[gl]?=A (ic LC 53 (0,0))):=O ((jt _ _ _ _ (by first|omega|(have:=Un.out;omega))).trans Vy);generalize(y1.setRow (t+1+1+1+1+1) SA)=y9 at c D M Q Wr Wt Ws ad a3⊢;clear s WE Q7 Q5 QD QG Qj q Vy;have Sn:=c;clear c;have bg:=D;clear D;have bh:=M;clear M;have bc:=Q;clear Q;have RX:=Wr;clear Wr;have T0:=Wt;clear Wt;have Rt:=Ws;clear Ws;have bd:=ad;clear ad;have a5:=a3;clear a3;refine G ?_;refine jE ?_;have bu:ih ((jd.info? 23).map (·.size)=A (g.last.map v8).length):=O (by rw[jk,Tg];kernel_rfl);obtain⟨DL,bf⟩:=J ((g.last.map v8).toArray);have S9:=O bf;have hh:ih (qb.wrap (ep+1)=ep+1):=O (by rw[km];omega);have bv:ih (DL.size=32):=O (by rw[bf,jp,jk,Tg]);clear bf
 go_upto_region 15 with fail
 refine jF ?_;refine bi (λF=>F.heap[t]?=A (ic al 29 (0,0))) (.take 0 (.take 1 (.take 2 (.take 3 (.take 4 (.take 5 (.take 6 (.take 7 (.take 8 (.one 9 (.take 10 (.one 11 .done)))))))))))) ae ae ae L (λ_ _ _ _ h=>h) Sn ?_;obtain⟨z0,Qs⟩:=J y9.drew;have d:=aP y9;rw[<-Qs]at d⊢;have VF:=Z Sn d;have a4:=Z bg d;have ba:=Z bh d;have br:=Z bc d;have Te:=Z RX d;have Tf:=Z T0 d;have Sl:=ac Rt d;have bb:=aE bd d;have b2:=Z a5 d;clear d Qs Sn bg bh bc RX T0 Rt bd a5;have Rl:=VF;clear VF;have YV:=a4;clear a4;have a2:=ba;clear ba;have RU:=br;clear br;have P:=Te;clear Te;have H:=Tf;clear Tf;have V:=Sl;clear Sl;have Yn:=bb;clear bb;have bm:=b2;clear b2;iterate 6 (refine az (v:=?_) rfl ag (λF U=>?_) ?_;rotate_left;(have b0:=cell_of U b8.1;have b1:=cell_of U b8.2;go_simp;with_reducible rfl);refine G ?_)
 (refine az (v:=jb DL) rfl ag (λF U=>by rw[S9];exact m9 qg rfl bu rfl rfl (hz F t U)) ?_;refine G ?_)
 iterate 2 (refine az (v:=?_) rfl ag (λF U=>?_) ?_;rotate_left;(have b0:=cell_of U b8.1;have b1:=cell_of U b8.2;go_simp;with_reducible rfl);refine G ?_)
 refine ai rfl (λK' u=>?_);go_simp;refine(EZ m _ z0 ((EK.At.of_sl (E:=EC) Yg).below V) e6).mono ?_;rintro e z1 ⟨aa,rfl,hu,d⟩;obtain⟨EE,a4⟩:=J z0.heap.size;rw[<-a4]at hu;have b9:ih (t+6<=EE):=O (by have h5:=(jC.1 H).1;omega);clear a4;have Uo:=O hu;clear hu;obtain⟨R4,c1,rfl⟩:=aO Uo;obtain⟨X0,ba⟩:∃y:Array jc,y= #[I N fd,I N (ep+1)]++DL++ #[I N a,T R4 m.length c1,T ii 0 0,T ii 0 0,T ii 0 0]++(dj.map v8).toArray++ #[I N 0,I N 0]:=⟨_,rfl⟩;have Vs:=O ba;have a4:X0=(ah (mk0 g a m z) ⟨T R4 m.length c1,T ii 0 0,T ii 0 0,T ii 0 0⟩).toArray:=by rw[ba,S9,hE,SJ];unfold ah mk0;simp
 have bb:=O a4;have bw:ih ((jd.info? 37).map (·.size)=A X0.size):=O (by rw[a4,jp,dT _ _ Tg.out dy];exact fa);have bA:ih (X0.all (·.oneCell')=true):=O (by rw[a4];exact lA _ _ _ _ _ _ _ _ _ _ _ _ _);have bC:ih (Qr.size=X0.size):=O (by rw[a4,<-WL,jp,jp,dT (mk0 g a m z) _ Tg.out dy,dT dP fk dy dy]);clear ba a4;have s:=Z Rl d;have WE:=Z YV d;have Q7:=Z a2 d;have Q5:=Z RU d;have QD:=Z P d;have QG:=Z H d;have Qj:=ac V d;have q:=aE Yn d;have Vy:=Z bm d;clear Rl YV a2 RU P H V Yn bm;clear d;refine u _ _ s.out λ_=>?_
 clear u;refine G ?_
 (refine az (v:=jb X0) rfl ag (λF U=>by rw[Vs];exact IA (f:=fd) (e:=ep+1) (au:=a) bv rfl (by simp only[qy,jT,qf,Act.eval,Array.getD_eq_getD_getElem?];simp;exact hh) F) ?_;refine G ?_)
 refine ai rfl (λK' u=>?_);rw[if_pos ag];refine jn 37 _ _ rfl (t+1+1+1+1) X0 rfl rfl 37 _ QD.out bw bC bA ?_;refine u _ _ ((jt _ _ _ _ Y).trans s) λ_=>?_
 clear u;have a2:ih ((z1.setRow (t+1+1+1+1) X0).ownsRow EE 49 5 (T R4 m.length c1) m.length (m.flatMap Chg.cells)):=O (lC Uo (λk hk=>jt _ _ _ _ (aw b9)));have c:ih ((z1.setRow (t+1+1+1+1) X0).heap[t]?=A (ic al 29 (0,0))):=O ((jt _ _ _ _ (by first|omega|(have:=Un.out;omega))).trans s);have D:ih ((z1.setRow (t+1+1+1+1) X0).heap[t+1]?=A (ic Qw 53 (0,0))):=O ((jt _ _ _ _ (by first|omega|(have:=Un.out;omega))).trans WE);have M:ih ((z1.setRow (t+1+1+1+1) X0).heap[t+1+1]?=A (ic IX 53 (0,0))):=O ((jt _ _ _ _ (by first|omega|(have:=Un.out;omega))).trans Q7);have Q:ih ((z1.setRow (t+1+1+1+1) X0).heap[t+1+1+1]?=A (ic S 53 (0,0))):=O ((jt _ _ _ _ (by first|omega|(have:=Un.out;omega))).trans Q5);have Wr:ih ((z1.setRow (t+1+1+1+1) X0).heap[(t+1+1+1+1)]?=A (ic X0 37 (0,0))):=O (ju _ _ _ _ _ _ QD.out);have Wt:ih ((z1.setRow (t+1+1+1+1) X0).heap[(t+1+1+1+1+1)]?=A (ic SA 53 (0,0))):=O ((jt _ _ _ _ (by first|omega|(have:=Un.out;omega))).trans QG);have Ws:ih (jf w w (z1.setRow (t+1+1+1+1) X0)):=O (jA Qj.out (by rw[HG];omega) _);have ad:=O (lC (w':=(z1.setRow (t+1+1+1+1) X0)) q (λk hk=>jt _ _ _ _ (aw cX)));have a3:ih ((z1.setRow (t+1+1+1+1) X0).heap[gl]?=A (ic LC 53 (0,0))):=O ((jt _ _ _ _ (by first|omega|(have:=Un.out;omega))).trans Vy);generalize(z1.setRow (t+1+1+1+1) X0)=z9 at c D M Q Wr Wt Ws ad a3 a2⊢;clear s WE Q7 Q5 QD QG Qj q Vy;have Sn:=c;clear c;have bg:=D;clear D;have bh:=M;clear M;have bc:=Q;clear Q;have RX:=Wr;clear Wr;have T0:=Wt;clear Wt;have Rt:=Ws;clear Ws;have bd:=ad;clear ad;have a5:=a3;clear a3;clear Uo;have ba:=a2;clear a2;refine G ?_;refine jE ?_;obtain⟨M,c⟩:=J z9.heap.size;have Rq:ih ((t+1+1+1+1)<M):=O (by rw[c];exact(jC.1 RX).1);have db:ih (gl<M):=O (by rw[c];exact(jC.1 a5).1);have VP:=O c;have dd:ih ((t+1+1+1+1+1)<M):=O (by rw[c];exact(jC.1 T0).1);have bI:ih (∀aa v,((λv=>(ah (mk0 g a m z) ⟨T R4 m.length c1,v,T ii 0 0,T ii 0 0⟩).toArray) aa).setIfInBounds 36 v=(λv=>(ah (mk0 g a m z) ⟨T R4 m.length c1,v,T ii 0 0,T ii 0 0⟩).toArray) v):=O (λaa v=>Ec (mk0 g a m z) _ _ _ _ _ Tg.out);have D:ih (df M (t+1+1+1+1) 37 3 1 (λv=>(ah (mk0 g a m z) ⟨T R4 m.length c1,v,T ii 0 0,T ii 0 0⟩).toArray) z9 z9 0 (T ii 0 0) (((dp z).take 0).map (jO .i64))):=O ⟨by have h:=RX.out;rw[bb]at h;exact h,lm _ _ _ _,aD.refl _ _ _,jz c⟩;have hM:ih (∀w,(Instr.alloc 53 true (jv #[])).run jd w=.ok (jN (A ⟨w,0,ii⟩)) (w.alloc (ic K 53))):=O (λw=>by rw[<-ZO];kernel_rfl);clear c;rw[hh]
 go_upto_region 16 with fail
 go_wp2_with fail
 go_loopw [91] (λv wr=>∃(i:Nat) (pv:Option jI) (cv:Nat),v=I N i/\i<=10/\ih (df M (t+1+1+1+1) 37 3 1 (λv=>(ah (mk0 g a m z) ⟨T R4 m.length c1,v,T ii 0 0,T ii 0 0⟩).toArray) z9 wr i (T pv i cv) (((dp z).take i).map (jO .i64)))) (λv _=>10-(jl v).toNat)
 case atStart=>exact⟨0,ii,0,rfl,jH _,D⟩
 clear D;obtain⟨i,pv,cv,rfl,hi,QU⟩:=hrel
 by_cases bB:i<10
 ·have hd:=aj ((i:Int)<10)
  have Q3:=aj (i<10);have hl:(i:Int)<10:=Y;obtain⟨c,D⟩:=J (((bU z i).map v8).toArray);have bN:=O D;have a4:ih ((jd.info? 53).map (·.size)=A c.size):=O (by rw[D,jp,jk,en z R2];kernel_rfl);have bO:ih (K.size=c.size):=O (by rw[D,<-ZO,jp,jk,jp,jk,en z R2,dy]);have bT:ih (c.all (·.oneCell')=true):=O (by rw[D];exact dB _);have b0:ih ((jd.info? 53).map (·.size)=A ((bU z i).map v8).length):=O (by rw[jk,en z R2];kernel_rfl);have b1:ih (∀W,fN W->jj jd 43 #[jb c] W λe w'=>e=jh (I N (lK (bU z i):Nat))/\jf W W w'):=O (by rw[D];exact λW hW=>O7 _ (en z R2 i) W hW);have bf:ih (wr.heap[gl]?=A (ic LC 53 (0,0))):=O ((QU.but.block gl db (aw Un)).trans a5);have Q:ih (wr.rangeAt gl (i*32) ((bU z i).map v8)):=O (rc bf (λj aa hj=>e9 i j aa bB hj));have Sj:ih (jf w w wr):=O (Rt.trans (QU.but.below (n:=w.heap.size) (by rw[HG];omega) (dS Rq HG)));clear D
  go_upto_region 18 with fail
  refine jo ?_;refine aL ?_;refine o8 ag λ_ u=>wp_load_mid 53 _ rfl _ _ rfl ((bU z i).map v8) _ (by first|exact Q|simpa using Q.out) jB rfl b0 (u _ _ ?_)
  rw[<-bN];refine jg rfl λ_ u=>dW 53 rfl K hM (u _ _ ?_)
  refine jg rfl λ_ u=>jn 53 _ _ rfl wr.heap.size c rfl rfl 53 K (ji wr _) a4 bO bT (u _ _ ?_)
  have a2:((wr.alloc (ic K 53)).setRow wr.heap.size c).heap[wr.heap.size]?=A (ic c 53 (0,0)):=ju _ _ _ _ _ _ (ji wr _);have d:jf wr wr ((wr.alloc (ic K 53)).setRow wr.heap.size c):=ud (af wr _) (jq _) _;obtain⟨k0,S2⟩:=J ((wr.alloc (ic K 53)).setRow wr.heap.size c);obtain⟨b3,D⟩:=J wr.heap.size;rw[<-S2,<-D]at a2;rw[<-S2]at d⊢;rw[<-D]at⊢;have a3:=O (QU.later (aw Rq) d);have ad:=O a2;have V:ih (jf w w k0):=ac Sj d;clear a2 d S2 D QU Sj bf Q
  go_upto_region 19 with fail
  refine jo ?_;refine jS rfl 53 _ rfl b3 rfl 53 c (0,0) _ ad.out jB rfl a4 ?_
  go_wp2_with fail
  refine(b1 k0 (Rp.below V)).mono ?_;rintro e k1 ⟨rfl,d⟩;have bK:=O (a3.later Rq d);have bM:=Z ad d;have Qj:=ac V d;clear a3 ad V;clear d
  go_wp2_with fail
  refine(sP (lK (bU z i)) (Bc _).1 (Bc _).2 k1).mono ?_;rintro e D ⟨rfl,d⟩;have Q:=O (bK.later Rq d);have b4:=Z bM d;have Qk:=ac Qj d;clear bK bM Qj;clear d;obtain⟨pp,ad⟩:∃y:Int,y=((aG 4 (lK (bU z i)):Nat):Int):=⟨_,rfl⟩;rw[<-ad];have bK:=O ad;clear ad;have Vq:=cell_of Q.box (show((λv=>(ah (mk0 g a m z) ⟨T R4 m.length c1,v,T ii 0 0,T ii 0 0⟩).toArray) (T pv i cv))[36]?=A (T pv i cv) by have h:=(eE (mk0 g a m z) ⟨T R4 m.length c1,T pv i cv,T ii 0 0,T ii 0 0⟩ Tg dy).2.2.2.2.1;simpa using h);have ad:((λv=>(ah (mk0 g a m z) ⟨T R4 m.length c1,v,T ii 0 0,T ii 0 0⟩).toArray) (T pv i cv)).size=73:=by rw[jp,dT _ _ Tg.out dy]
  have bM:=O ad;clear ad
  go_wp2_with (at_builtin;refine Hid.out ?_)
  refine O ?_;refine jg rfl λ_ u=>EO _ _ rfl M (T pv i cv) i _ rfl (de Q.own (af D _)) _ 1 [I N pp] rfl (ey D [I N pp] 3 (0,0) 1 1 1 rfl (jq _)) (by simp[jD]) Y (jw Q.sz' (af D _).size) λv' k9 QO=>u _ _ ?_
  clear u;have a3:df M (t+1+1+1+1) 37 3 1 (λv=>(ah (mk0 g a m z) ⟨T R4 m.length c1,v,T ii 0 0,T ii 0 0⟩).toArray) z9 (D.alloc (ic #[I N pp] 3)) i (T pv i cv) (((dp z).take i).map (jO .i64)):=Q.later (aw Rq) (af D _);have R1:=eh a3.box QO.grown (bW a3.own (.inr Rq));obtain⟨pn,cn,rfl⟩:=aO QO.own;have UZ:ih (df M (t+1+1+1+1) 37 3 1 (λv=>(ah (mk0 g a m z) ⟨T R4 m.length c1,v,T ii 0 0,T ii 0 0⟩).toArray) z9 (k9.setCell ⟨(t+1+1+1+1),36,ii⟩ (T pn (i+1) cn)) (i+1) (T pn (i+1) cn) (((dp z).take (i+1)).map (jO .i64))):=O (by
   have h:=a3.push (i:=36) Rq QO (bI _ _);rw[L9 z i bB,j0,jT,qf,<-bK];exact h)
  obtain⟨⟨vo,c3⟩,f3,-,-⟩:=bH (i:=36) (T pn (i+1) cn) R1 (by rw[bM];decide);clear a3 QO R1 Vq
  go_wp2_with fail
  go_roundw
  case rel=>exact⟨i+1,pn,cn,by go_num,by omega,UZ⟩
  case measure=>simp only[jl];omega
 obtain rfl:i=10:=Y;have hd:decide ((10:Int)<10)=false:=by decide
 have Q3:decide (10<10)=false:=by decide
 rename je=>p1;have b3:(dp z).take 10=dp z:=jW (by rw[iO];exact jq _);rw[b3]at QU;have c:(dp z).length=10:=iO z;have s:ih (p1.heap[t]?=A (ic al 29 (0,0))):=O ((QU.but.block (t) (by first|(have:=Rq.out;omega)|(have:=dd.out;omega)|(have:=db.out;omega)) (by first|omega|(have:=Un.out;omega))).trans Sn);have Q5:ih (p1.heap[t+1+1+1]?=A (ic S 53 (0,0))):=O ((QU.but.block (t+1+1+1) (by first|(have:=Rq.out;omega)|(have:=dd.out;omega)|(have:=db.out;omega)) (by first|omega|(have:=Un.out;omega))).trans bc);have QG:ih (p1.heap[(t+1+1+1+1+1)]?=A (ic SA 53 (0,0))):=O ((QU.but.block (t+1+1+1+1+1) (by first|(have:=Rq.out;omega)|(have:=dd.out;omega)|(have:=db.out;omega)) (by first|omega|(have:=Un.out;omega))).trans T0);have Vy:ih (p1.heap[gl]?=A (ic LC 53 (0,0))):=O ((QU.but.block (gl) (by first|(have:=Rq.out;omega)|(have:=dd.out;omega)|(have:=db.out;omega)) (by first|omega|(have:=Un.out;omega))).trans a5);have QD:ih (p1.heap[(t+1+1+1+1)]?=A (ic ((λv=>(ah (mk0 g a m z) ⟨T R4 m.length c1,v,T ii 0 0,T ii 0 0⟩).toArray) (T pv 10 cv)) 37 (0,0))):=O QU.box;have Qj:ih (jf w w p1):=O (Rt.trans (QU.but.below (n:=w.heap.size) (by rw[HG];omega) (dS Rq HG)));have Uo:ih (p1.ownsRow EE 49 5 (T R4 m.length c1) m.length (m.flatMap Chg.cells)):=O (gX ba (λk a4 ad=>QU.but.block k (by rw[VP];exact ad) (aw b9)));have q:=O (gX bd (λk a4 ad=>QU.but.block k (by rw[VP];exact ad) (aw cX)));have D:ih (M<=p1.heap.size):=O QU.sz';have VA:ih (p1.ownsRow M 3 1 (T pv 10 cv) 10 ((dp z).map (jO .i64))):=O QU.own;clear b3 c QU bB hi bd Sn bg bh bc RX T0 Rt a5 ba bI bn bk bq bo bs S9 bu Vs bw bA bC bb bv;obtain⟨pq,cq,hN,hO⟩:∃(p:Option jI) (c:Nat),p=pv/\c=cv:=⟨_,_,rfl,rfl⟩;subst hN;subst hO
 go_upto_region 22 with fail
 refine jo ?_;refine jS rfl 29 _ rfl t rfl 29 al (0,0) _ s.out jR rfl Tj ?_;have Q:ih (M<=p1.heap.size):=D;clear s D
 go_wp2_with fail
 refine(VG p1 Vb (fm.below Qj) ((EK.At.of_sl (E:=EC) Yg).below Qj)).mono ?_;rintro e pm ⟨u1,rfl,hu,d⟩;have s:=O hu;clear hu;obtain⟨pt,nt,ct,rfl⟩:=gE s;have D:ih (M<=pm.heap.size):=O (jw Q d.size);have a5:=Z Q5 d;have ba:=Z QG d;have bb:=Z Vy d;have bc:=Z QD d;have bd:=ac Qj d;have bg:=aE Uo d;have bh:=aE VA d;have bk:=aE q d;clear Q5 QG Vy QD Qj Uo VA q;clear d;clear Q
 go_upto_region 23 with fail
 have d:=af pm (ic #[T pt nt ct] 27);have Q:=ji pm (ic #[T pt nt ct] 27);obtain⟨p2,C⟩:=J (pm.alloc (ic #[T pt nt ct] 27));rw[<-C]at d Q⊢;obtain⟨bt,hg⟩:=J pm.heap.size;rw[<-hg]at Q⊢;have q:=O hg;have QM:=Z a5 d;have QR:=Z ba d;have bn:=Z bb d;have QE:=Z bc d;have Qk:=ac bd d;have Vx:=aE bg d;have VB:=aE bh d;have c6:=aE bk d;have bs:=O (s.below d);clear a5 ba bb bc bd bg bh bk s;have s:=O Q;clear Q C d hg;have hP:ih (M<=bt):=O (by rw[q];exact D);have gb:=s;clear s D q;obtain⟨M2,q⟩:=J p2.heap.size;have a5:ih ((t+1+1+1+1)<M2):=O (by rw[q];exact(jC.1 QE).1);have hm:ih ((t+1+1+1+1+1)<M2):=O (by rw[q];exact(jC.1 QR).1);have ho:ih (gl<M2):=O (by rw[q];exact(jC.1 bn).1);have hq:ih (bt<M2):=O (by rw[q];exact(jC.1 gb).1);have hr:ih (bt≠(t+1+1+1+1)):=O (dS hP Rq);have Ru:=O q;have hs:ih (∀aa v,((λv=>(ah (mk0 g a m z) ⟨T R4 m.length c1,T pq 10 cq,v,T ii 0 0⟩).toArray) aa).setIfInBounds 37 v=(λv=>(ah (mk0 g a m z) ⟨T R4 m.length c1,T pq 10 cq,v,T ii 0 0⟩).toArray) v):=O (λaa v=>uO (mk0 g a m z) _ _ _ _ _ Tg.out);obtain⟨nl,s⟩:=J (dh g a m);have Zs:=O s;have WJ:ih (nu=nl.length):=O (by rw[s];exact g9);have ht:ih (nu<=511):=O (by rw[g9,Td];exact zY _ Vn.1 Vn.2);have hQ:=O (lO m _ (iP WI.tree) (pD WI Vb fo)).1;have D:ih (cg M2 (t+1+1+1+1) 37 74 4 Bx.cells Bx.body (λv=>(ah (mk0 g a m z) ⟨T R4 m.length c1,T pq 10 cq,v,T ii 0 0⟩).toArray) p2 p2 0 (T ii 0 0) ((nl.take 0).map (dZ g a m z seed)) []):=O (cg.start QE (jz q));clear q s
 go_upto_region 23 with fail
 go_wp2_with fail
 go_loopw [113] (λv wr=>∃(i:Nat) (pv:Option jI) (cv:Nat) (us:List jc),v=I N i/\i<=nu/\ih (cg M2 (t+1+1+1+1) 37 74 4 Bx.cells Bx.body (λv=>(ah (mk0 g a m z) ⟨T R4 m.length c1,T pq 10 cq,v,T ii 0 0⟩).toArray) p2 wr i (T pv i cv) ((nl.take i).map (dZ g a m z seed)) us)) (λv _=>nu-(jl v).toNat)
 case atStart=>exact⟨0,ii,0,[],rfl,jH _,D⟩
 clear D;obtain⟨i,pv,cv,us,rfl,hi,QU⟩:=hrel;have cA:=ht.out
 by_cases bB:i<nu
 ·have hd:=aj ((i:Int)<(nu:Int))
  have Q3:=aj (i<nu);have hl:(i:Int)<(nu:Int):=Y;have Sj:ih (jf w w wr):=O (Qk.trans (QU.row.but.below (n:=w.heap.size) (by rw[HG];omega) (dS a5 HG)));have TN:=QU.row.but;have D:=O (gX c6 (λk a4 ad=>TN.block k (by rw[Ru];exact ad) (aw cX)));have dn:=O (gX Vx (λk a4 ad=>TN.block k (by rw[Ru];exact ad) (aw b9)));have dr:=O (gX VB (λk a4 ad=>TN.block k (by rw[Ru];exact ad) (aw Rq)));have bd:ih (aT wr (T pt nt ct) (aJ g.tree m)):=O (Jb bs (j:=37) QE QU.row.box (λk hk hn=>TN.block k (by rw[Ru];exact hk) hn) (λj hj=>IP (mk0 g a m z) _ _ _ _ _ Tg.out j hj) ⟨_,_,_,(kV (mk0 g a m z) _ _ _ _ Tg.out dy).2.1⟩);have ds:ih (wr.heap[t+1+1+1]?=A (ic S 53 (0,0))):=O ((TN.block (t+1+1+1) (aw a5) Y).trans QM);have bf:ih (wr.heap[gl]?=A (ic LC 53 (0,0))):=O ((TN.block gl ho (aw Un)).trans bn);have bk:ih (wr.heap[bt]?=A (ic #[T pt nt ct] 27 (0,0))):=O ((TN.block bt hq hr).trans gb);have Rh:EB0.At wr (T pu nu hF) nl:=EK.At.of_own (E:=EB0) (B:=x0.heap.size) (by rw[<-WJ,Zs];exact D);obtain⟨-,-,Sz⟩:=Rh.cells;obtain⟨g0,o,hR,bo⟩:=Sz Y;subst hR;obtain⟨⟨kk,s⟩,C,T8⟩:=dE (l:=nl) (j:=i) (by rw[<-WJ];exact bB);have d0:wr.cell? ⟨g0,o+i*4,ii⟩=A (I N s):=bo i _ C 0 _ rfl;have d1:wr.cell? ⟨g0,o+i*4+1,ii⟩=A (I N kk):=bo i _ C 1 _ rfl;have d2:wr.cell? ⟨g0,o+i*4+2,ii⟩=A (I N 0):=bo i _ C 2 _ rfl;have d3:wr.cell? ⟨g0,o+i*4+3,ii⟩=A (T ii 0 0):=bo i _ C 3 _ rfl;have Zk:=nn C;rw[Zs,Td]at Zk;obtain⟨⟨a4,ad⟩,⟨a1,Rs⟩,ba,b4⟩:=C9 hQ Vn.1 Vn.2 Zk;obtain⟨q,rfl⟩:=ob (show 0<=kk by omega);obtain⟨RY,cx⟩:=ob (show 0<=(ofF (aJ g.tree m) s).getD 0 by have:=b4.1;omega);have hS:ih (yq (aJ g.tree m) s=RY):=O (by unfold yq;rw[cx];rfl);rw[cx]at b4;have gf:=O b4;have Zz:ih (∀W,aT W (T pt nt ct) (aJ g.tree m)->jj jd 44 #[jb #[T pt nt ct],I N s] W λe w'=>e=jh (jv #[I N (RY:Int),.bool true])/\jf W W w'):=O (λW hW=>by
   have h:=Gg (aJ g.tree m) _ s W hW (by have:=tN g.tree m;have:=T6.out;have:=Vb.len;omega) (I64.of Y);rw[cx,ba]at h;exact h)
  have SF:ih ((nl.take (i+1)).map (dZ g a m z seed)=(nl.take i).map (dZ g a m z seed)++[dZ g a m z seed ((q:Int),s)]):=O (by rw[T8,j0];rfl);have cb:ih (q<10/\1<=q):=O ⟨by omega,by omega⟩;have hw:ih (1<=s/\s<1024):=O ⟨a1,Rs⟩;clear Rh Sz bo C T8 Zk a4 ad a1 Rs ba b4 cx D TN
  go_upto_region 26 with fail
  obtain⟨bb,Ti⟩:=J wr.heap.size;have a2:=ji wr (ic #[I N s,I N (q:Int),I N 0,T ii 0 0] 74);have d:=af wr (ic #[I N s,I N (q:Int),I N 0,T ii 0 0] 74);have ca:ih (M2<=bb):=O (by rw[Ti];exact QU.row.sz');have SX:ih ((jP pv i cv).ownBlock≠A bb):=O (bW QU.row.own (.inl (jz Ti.symm)));rw[<-Ti]at a2⊢;obtain⟨k0,S2⟩:=J (wr.alloc (ic #[I N s,I N (q:Int),I N 0,T ii 0 0] 74));rw[<-S2]at a2 d⊢;have Y7:=O d;have ba:=O (av QU.row.box d);have bc:=O a2;have V:=ac Sj d;have bg:=aE dn d;have bh:=aE dr d;have bO:=O (bd.below d);have RU:=Z ds d;have bm:=Z bf d;have D:=Z bk d;have dv:ih (wr.heap.size=bb):=O Ti.symm;clear a2 d S2 Ti Sj dn dr bd ds bf bk d0 d1 d2 d3;have e0:=cell_of (i:=0) bc rfl
  go_upto_region 26 with fail
  refine jo ?_;refine jS rfl 27 _ rfl bt rfl 27 #[T pt nt ct] (0,0) _ D.out underlying27 rfl nK ?_
  go_wp2_with fail
  refine(Zz k0 bO).mono ?_;rintro e k1 ⟨rfl,d⟩;have WM:=ac Y7 d;have UX:=Z ba d;have VT:=Z bc d;have Qj:=ac V d;have Uo:=aE bg d;have VA:=aE bh d;have bA:=O (bO.below d);have Q5:=Z RU d;have Vy:=Z bm d;clear Y7 ba bc V bg bh bO RU bm;clear d e0 D;have Yq:ih (k1.cell? ⟨bb,0,ii⟩=A (I N s)/\k1.cell? ⟨bb,1,ii⟩=A (I N (q:Int))):=O ⟨cell_of VT rfl,cell_of VT rfl⟩;obtain⟨ex,bC⟩:=J (eM seed mH [(q:Int),s]);have ea:ex.length=32:=by rw[bC];exact m7 _ _ _
  obtain⟨EX,cc⟩:=J ((ex.map v8).toArray);obtain⟨bI,bK⟩:=J (mp (mk0 g a m z) mH [(q:Int),s]);obtain⟨u0,cd⟩:∃y:Int,y=((aG 4 (kv ex):Nat):Int):=⟨_,rfl⟩;obtain⟨bd,bM⟩:=J (ge RY ex bI (bU z q));have gi:ih (bd.length=48):=O (by rw[bM,lL,en z R2]);have bN:ih (∀W v,cH W v [(q:Int),s]->cF W->jj jd 46 #[jb S,ja ⟨#[98,111,120]⟩,v] W λe w'=>e=jh (jb EX)/\jf W W w'):=O (λW v hv hW=>by
   rw[g7,cc,bC];exact oL seed g5 mH [(q:Int),s] v W hv (DG L (by have:=hw.out;have:=cb.out;intro x C;simp at C;rcases C with rfl|rfl<;>exact⟨by omega,by omega⟩) ar) hW)
  have eb:ih (∀W v R7,ay (·<W.heap.size) W {mk0 g a m z with box:=R7} ⟨T R4 m.length c1,T pq 10 cq,T pv i cv,T ii 0 0⟩->R7.length<=1000000->cH W v [(q:Int),s]->cF W->jj jd 47 #[jb ((λv=>(ah (mk0 g a m z) ⟨T R4 m.length c1,T pq 10 cq,v,T ii 0 0⟩).toArray) (T pv i cv)),ja ⟨#[98,111,120]⟩,v] W λe w'=>∃D,e=jh (T (A ⟨D,0,ii⟩) 32 32)/\BytesAt w' (T (A ⟨D,0,ii⟩) 32 32) bI/\jf W W w'):=O (λW v R7 hC hu hv hW=>by
   rw[bK];exact BA {mk0 g a m z with box:=R7} _ mH [(q:Int),s] v W L hC hv ar ⟨e6,by show(dp z).length<=_;rw[iO];decide,hu,jH _⟩
    (AN (c:={mk0 g a m z with box:=R7}) (nums:=[(q:Int),s]) (by have h1:=WI.fol.1;have h2:=WI.fol.2;exact⟨by show _ <=g.folder;omega,by show g.folder<_;omega⟩) (by have h1:=WI.ep;exact⟨by show _ <=g.epoch+1;omega,by show g.epoch+1<_;omega⟩) (by have:=Vn.out;exact⟨by show _ <=a;omega,by show a<_;omega⟩) Tg (by have:=hw.out;have:=cb.out;intro x C;simp at C;rcases C with rfl|rfl<;>exact⟨by omega,by omega⟩) ar) hW)
  have ec:ih (∀W vh vb,BytesAt W vh bI->BytesAt W vb (bU z q)->iF W->jj jd 45 #[I N (RY:Int),jb EX,vh,vb] W λe w'=>∃c,e=jh (jv #[jb #[I N u0,c],I N 0])/\w'.ownsRow W 5 1 c 48 (bd.map v8)/\jf W W w'):=O (λW vh vb h1 h2 h3=>by
   have h:=Ek RY gf ex bI (bU z q) ea (by rw[bK];unfold mp;rw[dL];decide) (by rw[en z R2];decide) vh vb W h1 h2 h3;rw[en z R2]at h;rw[cc,cd,bM];exact h)
  have Rf:ih (dZ g a m z seed ((q:Int),s)=⟨s,(q:Int),u0,bd⟩):=O (by rw[bM,cd,bK,bC,<-hS];rfl);have hT:ih ((jd.info? 37).map (·.size)=A ((λv=>(ah (mk0 g a m z) ⟨T R4 m.length c1,T pq 10 cq,v,T ii 0 0⟩).toArray) (T pv i cv)).size):=O (by rw[jp,dT _ _ Tg.out dy];exact fa);have h5:decide ((q:Int)<10)=true:=by have:=cb.out;simp;omega
  have h7:(q:Int)<10:=aw cb;have hU:q<10:=aw cb;clear ea cc bK cd bM bC
  go_upto_region 27 with fail
  refine jF ?_;refine bi (λF=>(F.cell? ⟨bb,0,ii⟩=A (I N s)/\F.cell? ⟨bb,1,ii⟩=A (I N (q:Int)))/\F.heap[t+1+1+1]?=A (ic S 53 (0,0))/\F.heap[(t+1+1+1+1)]?=A (ic ((λv=>(ah (mk0 g a m z) ⟨T R4 m.length c1,T pq 10 cq,v,T ii 0 0⟩).toArray) (T pv i cv)) 37 (0,0))) (.take 0 (.take 1 (.take 2 (.take 3 (.take 4 (.take 5 (.take 8 (.take 9 (.take 10 (.take 11 (.take 12 (.take 15 (.take 16 (.take 17 (.take 18 (.take 19 (.two 6 13 (.two 7 13 (.one 13 (.one 14 (.one 20 (.take 21 (.take 22 (.take 23 (.take 24 (.one 25 .done)))))))) (.one 7 (.one 14 (.one 20 (.take 21 (.take 22 (.take 23 (.take 24 (.one 25 .done))))))))) (.one 6 (.one 7 (.one 14 (.one 20 (.take 21 (.take 22 (.take 23 (.take 24 (.one 25 .done)))))))))))))))))))))))))) ae ae ae L (λ_ _ _ _ h=>h) ⟨Yq,Q5,UX⟩ ?_;obtain⟨l0,Qs⟩:=J k1.drew;have d:=aP k1;rw[<-Qs]at d⊢;have ed:=ac WM d;have eg:=Z UX d;have ej:=Z VT d;have Sl:=ac Qj d;have ek:=aE Uo d;have em:=aE VA d;have bf:=O (bA.below d);have br:=Z Q5 d;have b2:=Z Vy d;have bk:=O (And.intro (cell_below Yq.1 d) (cell_below Yq.2 d));clear d Qs WM UX VT Qj Uo VA bA Q5 Vy Yq;have Y7:=ed;clear ed;have ba:=eg;clear eg;have bc:=ej;clear ej;have V:=Sl;clear Sl;have bg:=ek;clear ek;have bh:=em;clear em;have bO:=bf;clear bf;have RU:=br;clear br;have bm:=b2;clear b2;have bT:=bk;clear bk;refine tS ?_
  (refine az (v:=jb S) rfl ag (λF U=>aY jB rfl g3 rfl rfl U.2.1) ?_;refine G ?_)
  iterate 4 refine tS ?_
  (refine az (v:=jb ((λv=>(ah (mk0 g a m z) ⟨T R4 m.length c1,T pq 10 cq,v,T ii 0 0⟩).toArray) (T pv i cv))) rfl ag (λF U=>aY jr rfl hT rfl rfl U.2.2) ?_;refine G ?_)
  iterate 9 refine tS ?_
  apply CL (.one 14 (.one 20 (.take 21 (.take 22 (.take 23 (.take 24 (.one 25 .done)))))))
  rotate_left
  ·intro TY
   refine gB ?_ ?_
   ·refine ai rfl (λK' u=>?_)
    go_simp;have d:=af l0 (ic #[I N (q:Int),I N s] 3);have Q:=kB l0 (q:Int) s;obtain⟨l1,C⟩:=J (l0.alloc (ic #[I N (q:Int),I N s] 3));rw[<-C]at d Q⊢;obtain⟨bu,hg⟩:=J l0.heap.size;rw[<-hg]at Q⊢;clear hg;have WM:=ac Y7 d;have UX:=Z ba d;have VT:=Z bc d;have Qj:=ac V d;have Uo:=aE bg d;have VA:=aE bh d;have bA:=O (bO.below d);have Q5:=Z RU d;have Vy:=Z bm d;have Yq:=O (And.intro (cell_below bT.1 d) (cell_below bT.2 d));have bv:=O Q;clear Q C d;refine u _ _ ⟨Yq,Q5,UX⟩ λ_=>?_
    clear u;refine G ?_;refine gB ?_ ?_
    ·refine ai rfl (λK' u=>?_)
     go_simp;refine(bN l1 _ bv.out (Rp.dig.below Qj)).mono ?_;rintro e l2 ⟨rfl,d⟩;have Tc:=ac WM d;have UV:=Z UX d;have Yp:=Z VT d;have Qk:=ac Qj d;have Vx:=aE Uo d;have VB:=aE VA d;have bs:=O (bA.below d);have QM:=Z Q5 d;have bn:=Z Vy d;have bf:=O (And.intro (cell_below Yq.1 d) (cell_below Yq.2 d));have Vz:=O (dw bv d);clear WM UX VT Qj Uo VA bA Q5 Vy Yq bv;clear d;refine u _ _ ⟨bf,QM,UV⟩ λ_=>?_
     clear u;refine G ?_;refine ai rfl (λK' u=>?_);go_simp;have d:=af l2 (ic #[I N (q:Int),I N s] 3);have Q:=kB l2 (q:Int) s;obtain⟨l3,C⟩:=J (l2.alloc (ic #[I N (q:Int),I N s] 3));rw[<-C]at d Q⊢;obtain⟨bk,hg⟩:=J l2.heap.size;rw[<-hg]at Q⊢;clear hg;have Um:=ac Tc d;have UW:=Z UV d;have Yo:=Z Yp d;have Qp:=ac Qk d;have Vh:=aE Vx d;have Vg:=aE VB d;have b5:=O (bs.below d);have RI:=Z QM d;have b6:=Z bn d;have bq:=O (And.intro (cell_below bf.1 d) (cell_below bf.2 d));have Yr:=O (dw Vz d);clear Tc UV Yp Qk Vx VB bs QM bn bf Vz;have Wu:=O Q;clear Q C d;refine u _ _ ⟨bq,RI,UW⟩ λ_=>?_
     clear u;refine G ?_;have hG:=(And.intro Um (And.intro UW (And.intro Yo (And.intro Qp (And.intro Vh (And.intro Vg (And.intro b5 (And.intro RI (And.intro b6 (And.intro bq (And.intro Yr Wu)))))))))));exact TY bu bk l3 hG
    refine ai rfl (λK' u=>?_);go_simp;have d:=af l1 (ic #[I N (q:Int),I N s] 3);have Q:=kB l1 (q:Int) s;obtain⟨l2,C⟩:=J (l1.alloc (ic #[I N (q:Int),I N s] 3));rw[<-C]at d Q⊢;obtain⟨bk,hg⟩:=J l1.heap.size;rw[<-hg]at Q⊢;clear hg;have Tc:=ac WM d;have UV:=Z UX d;have Yp:=Z VT d;have Qk:=ac Qj d;have Vx:=aE Uo d;have VB:=aE VA d;have bs:=O (bA.below d);have QM:=Z Q5 d;have bn:=Z Vy d;have bf:=O (And.intro (cell_below Yq.1 d) (cell_below Yq.2 d));have Vz:=O (dw bv d);clear WM UX VT Qj Uo VA bA Q5 Vy Yq bv;have bw:=O Q;clear Q C d;refine u _ _ ⟨bf,QM,UV⟩ λ_=>?_
    clear u;refine G ?_;refine ai rfl (λK' u=>?_);go_simp;refine(bN l2 _ Vz.out (Rp.dig.below Qk)).mono ?_;rintro e l3 ⟨rfl,d⟩;have Um:=ac Tc d;have UW:=Z UV d;have Yo:=Z Yp d;have Qp:=ac Qk d;have Vh:=aE Vx d;have Vg:=aE VB d;have b5:=O (bs.below d);have RI:=Z QM d;have b6:=Z bn d;have bq:=O (And.intro (cell_below bf.1 d) (cell_below bf.2 d));have Yr:=O (dw Vz d);have Wu:=O (dw bw d);clear Tc UV Yp Qk Vx VB bs QM bn bf Vz bw;clear d;refine u _ _ ⟨bq,RI,UW⟩ λ_=>?_
    clear u;refine G ?_;have hG:=(And.intro Um (And.intro UW (And.intro Yo (And.intro Qp (And.intro Vh (And.intro Vg (And.intro b5 (And.intro RI (And.intro b6 (And.intro bq (And.intro Yr Wu)))))))))));exact TY bu bk l3 hG
   refine ai rfl (λK' u=>?_);go_simp;have d:=af l0 (ic #[I N (q:Int),I N s] 3);have Q:=kB l0 (q:Int) s;obtain⟨l1,C⟩:=J (l0.alloc (ic #[I N (q:Int),I N s] 3));rw[<-C]at d Q⊢;obtain⟨bk,hg⟩:=J l0.heap.size;rw[<-hg]at Q⊢;clear hg;have WM:=ac Y7 d;have UX:=Z ba d;have VT:=Z bc d;have Qj:=ac V d;have Uo:=aE bg d;have VA:=aE bh d;have bA:=O (bO.below d);have Q5:=Z RU d;have Vy:=Z bm d;have Yq:=O (And.intro (cell_below bT.1 d) (cell_below bT.2 d));have eq:=O Q;clear Q C d;refine u _ _ ⟨Yq,Q5,UX⟩ λ_=>?_
   clear u;refine G ?_;refine ai rfl (λK' u=>?_);go_simp;have d:=af l1 (ic #[I N (q:Int),I N s] 3);have Q:=kB l1 (q:Int) s;obtain⟨l2,C⟩:=J (l1.alloc (ic #[I N (q:Int),I N s] 3));rw[<-C]at d Q⊢;obtain⟨bu,hg⟩:=J l1.heap.size;rw[<-hg]at Q⊢;clear hg;have Tc:=ac WM d;have UV:=Z UX d;have Yp:=Z VT d;have Qk:=ac Qj d;have Vx:=aE Uo d;have VB:=aE VA d;have bs:=O (bA.below d);have QM:=Z Q5 d;have bn:=Z Vy d;have bf:=O (And.intro (cell_below Yq.1 d) (cell_below Yq.2 d));have bw:=O (dw eq d);clear WM UX VT Qj Uo VA bA Q5 Vy Yq eq;have Vz:=O Q;clear Q C d;refine u _ _ ⟨bf,QM,UV⟩ λ_=>?_
   clear u;refine G ?_;refine ai rfl (λK' u=>?_);go_simp;refine(bN l2 _ Vz.out (Rp.dig.below Qk)).mono ?_;rintro e l3 ⟨rfl,d⟩;have Um:=ac Tc d;have UW:=Z UV d;have Yo:=Z Yp d;have Qp:=ac Qk d;have Vh:=aE Vx d;have Vg:=aE VB d;have b5:=O (bs.below d);have RI:=Z QM d;have b6:=Z bn d;have bq:=O (And.intro (cell_below bf.1 d) (cell_below bf.2 d));have Wu:=O (dw bw d);have Yr:=O (dw Vz d);clear Tc UV Yp Qk Vx VB bs QM bn bf bw Vz;clear d;refine u _ _ ⟨bq,RI,UW⟩ λ_=>?_
   clear u;refine G ?_;have hG:=(And.intro Um (And.intro UW (And.intro Yo (And.intro Qp (And.intro Vh (And.intro Vg (And.intro b5 (And.intro RI (And.intro b6 (And.intro bq (And.intro Yr Wu)))))))))));exact TY bu bk l3 hG
  clear Y7 ba bc V bg bh bO RU bm bT;rintro bu bk l3 ⟨Um,UW,Yo,Qp,Vh,Vg,b5,RI,b6,bq,Yr,Wu⟩;refine ai rfl (λK' u=>?_);go_simp;refine(eb l3 _ _ (NY Tg Vh Vg (QU.later a5 Um) (by rw[jk,jU];have:=WJ.out;omega)) (by rw[jk,jU];omega) Wu (Rp.dig.below Qp)).mono ?_;rintro e l4 ⟨hx,rfl,b7,d⟩;have ce:=O b7;clear b7;have ev:=ac Um d;have cf:=Z UW d;have cj:=Z Yo d;have Qt:=ac Qp d;have bO:=aE Vh d;have bT:=aE Vg d;have b1:=O (b5.below d);have Se:=Z RI d;have b0:=Z b6 d;have bf:=O (And.intro (cell_below bq.1 d) (cell_below bq.2 d));have ew:=O (dw Yr d);have e1:=O (dw Wu d);clear Um UW Yo Qp Vh Vg b5 RI b6 bq Yr Wu;clear d;refine u _ _ ⟨bf,Se,cf⟩ λ_=>?_
  clear u;refine G ?_;refine ai rfl (λK' u=>?_);go_simp;refine(ec l4 _ _ ce.out (bytes_of_row b0 (λj aa hj=>e9 q j aa hU hj) (en z R2 q)) (g4.below Qt)).mono ?_;rintro e l5 ⟨c,rfl,ZP,d⟩;have RN:ih (bb<l4.heap.size):=O (jC.1 cj).1;obtain⟨hV,gm⟩:=J l4.heap.size;rw[<-gm]at ZP RN;have e2:=O ZP;obtain⟨pc,R,rfl⟩:=aO ZP;clear ZP;have e3:=ac ev d;have ck:=Z cf d;have cm:=Z cj d;have Qy:=ac Qt d;have cy:=aE bO d;have cz:=aE bT d;have hY:=O (b1.below d);have Vo:=Z Se d;have c8:=Z b0 d;have e4:=O (And.intro (cell_below bf.1 d) (cell_below bf.2 d));have gn:=O (dw ew d);have gp:=O (dw e1 d);have gv:=O (ce.below d);clear ev cf cj Qt bO bT b1 Se b0 bf ew e1 ce;clear d;refine u _ _ ⟨e4,Vo,ck⟩ λ_=>?_
  clear u;refine G ?_;iterate 4 refine tS ?_
  refine ai rfl (λK' u=>?_);rw[if_pos ag];refine oi 72 _ _ rfl bb 2 #[I N u0,T pc 48 R] rfl rfl (lZ (o:=2) (n:=2) cm ar) ae (by simp[jD]) ?_;rw[show(#[I N u0,T pc 48 R]:Array jc).toList=[I N u0,T pc 48 R]from rfl];obtain⟨s1,s2⟩:=CS (i:=2) (x:=I N u0) (y:=T pc 48 R) cm;have s3:jf wr wr (l5.setCells bb 2 [I N u0,T pc 48 R]):=Below.cellsFrom e3 bb (jz dv) _ _;have cp:=lC (w':=l5.setCells bb 2 [I N u0,T pc 48 R]) e2 (λk hk=>s2 k (aw RN));refine u _ _ ⟨⟨cell_of s1 rfl,cell_of s1 rfl⟩,(s2 (t+1+1+1) (dS ca a5)).trans Vo,(s2 (t+1+1+1+1) (dS ca a5)).trans ck⟩ λ_=>?_
  clear u;have cs:ih ((l5.setCells bb 2 [I N u0,T pc 48 R]).heap[bb]?=A (ic #[I N s,I N (q:Int),I N u0,T pc 48 R] 74 (0,0))):=O s1;have cu:ih (cg M2 (t+1+1+1+1) 37 74 4 Bx.cells Bx.body (λv=>(ah (mk0 g a m z) ⟨T R4 m.length c1,T pq 10 cq,v,T ii 0 0⟩).toArray) p2 (l5.setCells bb 2 [I N u0,T pc 48 R]) i (T pv i cv) ((nl.take i).map (dZ g a m z seed)) us):=O (QU.later a5 s3);have cw:ih (ap (λg=>M2<=g/\g<(l5.setCells bb 2 [I N u0,T pc 48 R]).heap.size/\(jP pv i cv).ownBlock≠A g) (l5.setCells bb 2 [I N u0,T pc 48 R]) (T pc 48 R) 1 48 (bd.map v8)):=O (ap.of_own cp (λg hg=>by
   have h1:=cp.lt g hg;have h2:=RN.out;have h3:=ca.out;have h4:=dv.out;exact⟨by omega,h1.2,bW QU.row.own (.inl Y)⟩))
  clear s1 s2 s3 cp;generalize l5.setCells bb 2 [I N u0,T pc 48 R]=kc at cs cu cw⊢;have gw:=cs;have b0:=cu;have g1:=cw;clear cs cu cw;refine G ?_;refine jE ?_;clear e3 ck cm Qy cy cz hY Vo c8 e4 e2 gv gn gp QU bN eb ec;have Uk:=cell_of b0.row.box (kV (mk0 g a m z) (T R4 m.length c1) (T pq 10 cq) (T pv i cv) (T ii 0 0) Tg dy).2.1
  go_upto_region 28 with fail
  refine jo ?_;iterate 2 refine aL ?_
  refine jS rfl 74 _ rfl bb rfl 74 #[I N s,I N (q:Int),I N u0,T pc 48 R] (0,0) _ gw.out underlying74 rfl ae ?_
  go_wp2_with (at_builtin;refine Hid.out ?_)
  refine O ?_;refine jg rfl λ_ u=>Bo _ _ rfl M2 (T pv i cv) i _ rfl (de b0.row.own (af kc _)) _ 1 [I N s,I N (q:Int),I N u0,T pc 48 R] rfl (ey kc [I N s,I N (q:Int),I N u0,T pc 48 R] 74 (0,0) 4 1 1 rfl (jq _)) (by simp[jD]) Y (jw b0.row.sz' (af kc _).size) λv' k9 QO=>u _ _ ?_
  clear u;have b1:=af kc (ic #[I N s,I N (q:Int),I N u0,T pc 48 R] 74);have a3:=b0.later a5 b1;have e4:=(ap.keep g1 (w':=kc.alloc (ic #[I N s,I N (q:Int),I N u0,T pc 48 R] 74)) (λg hg=>b1.block g hg.2.1)).mono (D':=λg=>M2<=g/\g<(kc.alloc (ic #[I N s,I N (q:Int),I N u0,T pc 48 R] 74)).heap.size/\(jP pv i cv).ownBlock≠A g) (λg hg=>⟨hg.1,jm hg.2.1 b1.size,hg.2.2⟩);have R1:=eh a3.row.box QO.grown (bW a3.row.own (.inr a5));obtain⟨pn,cn,rfl⟩:=aO QO.own;have UZ:ih (cg M2 (t+1+1+1+1) 37 74 4 Bx.cells Bx.body (λv=>(ah (mk0 g a m z) ⟨T R4 m.length c1,T pq 10 cq,v,T ii 0 0⟩).toArray) p2 (k9.setCell ⟨(t+1+1+1+1),37,ii⟩ (T pn (i+1) cn)) (i+1) (T pn (i+1) cn) ((nl.take (i+1)).map (dZ g a m z seed)) (us++[T pc 48 R])):=O (by
   rw[SF,Rf];exact cg.push (x:=(⟨s,(q:Int),u0,bd⟩:Bx)) a3 a5 (by show ap _ _ _ 1 bd.length (bd.map v8);rw[gi];exact e4) QO (hs _ _))
  obtain⟨⟨vo,c3⟩,f3,-,-⟩:=bH (i:=37) (T pn (i+1) cn) R1 (by rw[(kV (mk0 g a m z) (T R4 m.length c1) (T pq 10 cq) (T pv i cv) (T ii 0 0) Tg dy).2.2.2];decide);clear a3 e4 QO R1 Uk b1
  go_wp2_with fail
  go_roundw
  case rel=>exact⟨i+1,pn,cn,us++[T pc 48 R],by go_num,by omega,UZ⟩
  case measure=>simp only[jl];omega
 obtain rfl:nu=i:=Y;have hd:decide ((nu:Int)<(nu:Int))=false:=by simp
 have Q3:decide (nu<nu)=false:=by simp
 rename je=>p3;obtain⟨pb,cb,c7,hw⟩:∃(p:Option jI) (c:Nat),p=pv/\c=cv:=⟨_,_,rfl,rfl⟩;subst c7;subst hw;have b3:nl.take nu=nl:=jW (by rw[WJ];exact jq _);rw[b3]at QU;have TN:=QU.row.but;have QW:=O QU.row.box;have Qp:ih (jf w w p3):=O (Qk.trans (QU.row.but.below (n:=w.heap.size) (by rw[HG];omega) (dS a5 HG)));have Vh:=O (gX Vx (λk a4 ad=>TN.block k (by rw[Ru];exact ad) (aw b9)));have Vg:=O (gX VB (λk a4 ad=>TN.block k (by rw[Ru];exact ad) (aw Rq)));have RI:ih (p3.heap[t+1+1+1]?=A (ic S 53 (0,0))):=O ((TN.block (t+1+1+1) (aw a5) Y).trans QM);have QZ:ih (p3.heap[(t+1+1+1+1+1)]?=A (ic SA 53 (0,0))):=O ((TN.block (t+1+1+1+1+1) (aw hm) Y).trans QR);have SP:=QU;clear TN b3 QU Qk Vx VB QM QR QE bn gb bs c6 bB hi hs Un e9 ho hq hr;have s:ih (∀W,EC.At W (T pc nc R) m->jj jd 27 #[I N a,T pc nc R] W λe w'=>∃aa,e=jh aa/\EC.At w' aa (dk a m)/\jf W W w'):=O (λW hW=>vR a m _ W hW Vb.once e6);obtain⟨wl,q⟩:=J (dk a m);rw[<-q]at s;have e0:=O q;have e9:ih (wl.length<=64):=O (by rw[q];have:=zX a m;have:=Vb.len;omega);clear q
 go_upto_region 30 with fail
 go_wp2_with fail
 refine(s p3 ((EK.At.of_sl (E:=EC) Yg).below Qp)).mono ?_;rintro e p4 ⟨aa,rfl,hu,d⟩;have b5:=O hu;obtain⟨pw,ho,rfl,-,-⟩:=hu.form;clear hu;have RG:=Z QW d;have RQ:=Z QZ d;have Se:=Z RI d;have Qt:=ac Qp d;have bO:=aE Vh d;have bT:=aE Vg d;have RR:=O (SP.later a5 d);clear QW QZ RI Qp Vh Vg SP;clear d;obtain⟨nw,q⟩:=J wl.length;rw[<-q]at b5 e9⊢;have Si:=O q;clear q s;obtain⟨M3,q⟩:=J p4.heap.size;have RP:=O q;have bf:ih ((t+1+1+1+1)<M3):=O (by rw[q];exact(jC.1 RG).1);have b6:ih ((t+1+1+1+1+1)<M3):=O (by rw[q];exact(jC.1 RQ).1);have c6:ih (iB (λk=>M2<=k/\k<M3) p4 (T pb nu cb) (nl.map (dZ g a m z seed))):=O (by
  obtain⟨s,h1,h2⟩:=RR.slice (by rw[jk];exact WJ) (D:=λk=>M2<=k/\k<M3) (λk a4 ad=>⟨a4,by rw[q];exact ad⟩);exact⟨s,h1,h2⟩)
 have hr:ih (∀aa v,((λv=>(ah (mk0 g a m z) ⟨T R4 m.length c1,T pq 10 cq,T pb nu cb,v⟩).toArray) aa).setIfInBounds 38 v=(λv=>(ah (mk0 g a m z) ⟨T R4 m.length c1,T pq 10 cq,T pb nu cb,v⟩).toArray) v):=O (λaa v=>vK (mk0 g a m z) _ _ _ _ _ Tg.out);have s:ih (cg M3 (t+1+1+1+1) 37 76 3 Wl.cells Wl.body (λv=>(ah (mk0 g a m z) ⟨T R4 m.length c1,T pq 10 cq,T pb nu cb,v⟩).toArray) p4 p4 0 (T ii 0 0) ((wl.take 0).map (fD g a m z init seed)) []):=O (cg.start RG (jz q));clear q RR
 go_wp2_with fail
 go_loopw [160] (λv wr=>∃(i:Nat) (pv:Option jI) (cv:Nat) (us:List jc),v=I N i/\i<=nw/\ih (cg M3 (t+1+1+1+1) 37 76 3 Wl.cells Wl.body (λv=>(ah (mk0 g a m z) ⟨T R4 m.length c1,T pq 10 cq,T pb nu cb,v⟩).toArray) p4 wr i (T pv i cv) ((wl.take i).map (fD g a m z init seed)) us)) (λv _=>nw-(jl v).toNat)
 case atStart=>exact⟨0,ii,0,[],rfl,jH _,s⟩
 clear s;obtain⟨i,pv,cv,us,rfl,hi,QU⟩:=hrel;have hs:=e9.out
 by_cases bB:i<nw
 ·have e7:=aj ((i:Int)<(nw:Int))
  have e8:=aj (i<nw);have hl:(i:Int)<(nw:Int):=Y;have Sj:ih (jf w w wr):=O (Qt.trans (QU.row.but.below (n:=w.heap.size) (by rw[HG];omega) (dS bf HG)));have TN:=QU.row.but;have dn:=O (gX bO (λk a4 ad=>TN.block k (by rw[RP];exact ad) (aw b9)));have dr:=O (gX bT (λk a4 ad=>TN.block k (by rw[RP];exact ad) (aw Rq)));have bq:ih (EC.At wr (T pw nw ho) wl):=O (Mi b5 (j:=38) RG QU.row.box (λk hk hn=>TN.block k (by rw[RP];exact hk) hn) (λj hj=>Gh (mk0 g a m z) _ _ _ _ _ Tg.out j hj) ⟨_,_,_,(kV (mk0 g a m z) _ _ _ _ Tg.out dy).2.2.1⟩);have ds:ih (wr.heap[t+1+1+1]?=A (ic S 53 (0,0))):=O ((TN.block (t+1+1+1) (aw bf) Y).trans Se);have bA:ih (wr.heap[(t+1+1+1+1+1)]?=A (ic SA 53 (0,0))):=O ((TN.block (t+1+1+1+1+1) b6 Y).trans RQ);have gb:ih (iB (·<wr.heap.size) wr (T pb nu cb) (nl.map (dZ g a m z seed))):=O (c6.keep (λk hk=>TN.block k hk.2 (aw a5)) (λk hk=>by have:=QU.row.sz';omega));obtain⟨-,-,Sz⟩:=bq.cells;obtain⟨g0,o,hq,bo⟩:=Sz Y;subst hq;obtain⟨⟨yk,q,yp,yv,yc⟩,C,T8⟩:=dE (l:=wl) (j:=i) (by rw[<-Si];exact bB);have d0:wr.cell? ⟨g0,o+i*5,ii⟩=A (I N yk):=bo i _ C 0 _ rfl;have d1:wr.cell? ⟨g0,o+i*5+1,ii⟩=A (I N q):=bo i _ C 1 _ rfl;have d2:wr.cell? ⟨g0,o+i*5+2,ii⟩=A (I N yp):=bo i _ C 2 _ rfl;have d3:wr.cell? ⟨g0,o+i*5+3,ii⟩=A (I N yv):=bo i _ C 3 _ rfl;have d4:wr.cell? ⟨g0,o+i*5+4,ii⟩=A (I N yc):=bo i _ C 4 _ rfl;have Zk:=nn C;rw[e0]at Zk;obtain⟨UY,Q9,Wb⟩:=EY.1 Zk;have s:=Vb.each _ UY;have b4:aM yp:=by
   rcases s.2 with⟨_,b,_,_⟩|⟨a,_⟩|⟨_,b,_⟩
   ·exact b
   ·exact absurd a Q9
   exact b
  have bn:0<=q/\q<512:=s.1;obtain⟨RY,cx⟩:=ob (show 0<=yp by have:=b4.1;omega);subst cx;have gf:=O b4;have hn:=O bn;have SF:ih ((wl.take (i+1)).map (fD g a m z init seed)=(wl.take i).map (fD g a m z init seed)++[fD g a m z init seed ⟨yk,q,(RY:Int),yv,yc⟩]):=O (by rw[T8,j0];rfl);clear Sz bo C T8 Zk UY Q9 Wb s b4 bn TN
  go_upto_region 34 with fail
  obtain⟨bb,Ti⟩:=J wr.heap.size;have a2:=ji wr (ic #[I N yk,I N q,I N (RY:Int),I N yv,I N yc] 49);have d:=af wr (ic #[I N yk,I N q,I N (RY:Int),I N yv,I N yc] 49);have s:=ji (wr.alloc (ic #[I N yk,I N q,I N (RY:Int),I N yv,I N yc] 49)) (ic #[I N q,I N 0,T ii 0 0] 76);have bn:=af (wr.alloc (ic #[I N yk,I N q,I N (RY:Int),I N yv,I N yc] 49)) (ic #[I N q,I N 0,T ii 0 0] 76);rw[js]at s;replace a2:=av a2 bn;replace d:=d.trans (bn.mono d.size);have ca:ih (M3<=bb):=O (by rw[Ti];exact QU.row.sz');rw[<-Ti]at a2 s⊢;obtain⟨k0,S2⟩:=J ((wr.alloc (ic #[I N yk,I N q,I N (RY:Int),I N yv,I N yc] 49)).alloc (ic #[I N q,I N 0,T ii 0 0] 76));rw[<-S2]at a2 s d⊢;have Y7:=O d;have ba:=O (av QU.row.box d);have bs:=O a2;have bc:=O s;have V:=ac Sj d;have bg:=aE dn d;have bh:=aE dr d;have Vu:=O (gb.below d);have RU:=Z ds d;have b4:=Z bA d;have dv:ih (wr.heap.size=bb):=O Ti.symm;clear a2 s d bn S2 Ti Sj dn dr bq ds bA gb d0 d1 d2 d3 d4;obtain⟨ex,bC⟩:=J (eM seed mN [q]);have ea:ex.length=32:=by rw[bC];exact m7 _ _ _
  obtain⟨EX,cc⟩:=J ((ex.map v8).toArray);obtain⟨bI,bK⟩:=J (mp (mk0 g a m z) mN [q]);obtain⟨u0,cd⟩:∃y:Int,y=((aG 4 (kv ex):Nat):Int):=⟨_,rfl⟩;obtain⟨bd,bM⟩:=J (ge RY ex bI (fF g z init));have gi:ih (bd.length=48):=O (by rw[bM,lL,kz]);have bN:ih (∀W v,cH W v [q]->cF W->jj jd 46 #[jb S,ja ⟨#[119,101,108,99,111,109,101]⟩,v] W λe w'=>e=jh (jb EX)/\jf W W w'):=O (λW v hv hW=>by
   rw[g7,cc,bC];exact oL seed g5 mN [q] v W hv (DG L (by have:=hn.out;intro x C;simp at C;rcases C with rfl;exact⟨by omega,by omega⟩) ar) hW)
  have eb:ih (∀W v s,ay (·<W.heap.size) W {mk0 g a m z with box:=nl.map (dZ g a m z seed),wel:=s} ⟨T R4 m.length c1,T pq 10 cq,T pb nu cb,T pv i cv⟩->s.length<=1000000->cH W v [q]->cF W->jj jd 47 #[jb ((λv=>(ah (mk0 g a m z) ⟨T R4 m.length c1,T pq 10 cq,T pb nu cb,v⟩).toArray) (T pv i cv)),ja ⟨#[119,101,108,99,111,109,101]⟩,v] W λe w'=>∃D,e=jh (T (A ⟨D,0,ii⟩) 32 32)/\BytesAt w' (T (A ⟨D,0,ii⟩) 32 32) bI/\jf W W w'):=O (λW v s hC hu hv hW=>by
   rw[bK];exact BA {mk0 g a m z with box:=nl.map (dZ g a m z seed),wel:=s} _ mN [q] v W L hC hv ar ⟨e6,by show(dp z).length<=_;rw[iO];decide,by show(nl.map (dZ g a m z seed)).length<=_;rw[jk,<-WJ];have:=ht.out;omega,hu⟩
    (AN (c:={mk0 g a m z with box:=nl.map (dZ g a m z seed),wel:=s}) (nums:=[q]) (by have h1:=WI.fol.1;have h2:=WI.fol.2;exact⟨by show _ <=g.folder;omega,by show g.folder<_;omega⟩) (by have h1:=WI.ep;exact⟨by show _ <=g.epoch+1;omega,by show g.epoch+1<_;omega⟩) (by have:=Vn.out;exact⟨by show _ <=a;omega,by show a<_;omega⟩) Tg (by have:=hn.out;intro x C;simp at C;rcases C with rfl;exact⟨by omega,by omega⟩) ar) hW)
  have ec:ih (∀W vh vb,BytesAt W vh bI->BytesAt W vb (fF g z init)->iF W->jj jd 45 #[I N (RY:Int),jb EX,vh,vb] W λe w'=>∃c,e=jh (jv #[jb #[I N u0,c],I N 0])/\w'.ownsRow W 5 1 c 48 (bd.map v8)/\jf W W w'):=O (λW vh vb h1 h2 h3=>by
   have h:=Ek RY gf ex bI (fF g z init) ea (by rw[bK];unfold mp;rw[dL];decide) (by rw[kz];decide) vh vb W h1 h2 h3;rw[kz]at h;rw[cc,cd,bM];exact h)
  have dn:ih (fD g a m z init seed ⟨yk,q,(RY:Int),yv,yc⟩=⟨q,u0,bd⟩):=O (by rw[bM,cd,bK,bC];rfl);have dr:ih ((jd.info? 37).map (·.size)=A ((λv=>(ah (mk0 g a m z) ⟨T R4 m.length c1,T pq 10 cq,T pb nu cb,v⟩).toArray) (T pv i cv)).size):=O (by rw[jp,dT _ _ Tg.out dy];exact fa);clear ea cc bK cd bM bC
  go_upto_region 34 with fail
  refine jF ?_;refine bi (λF=>F.heap[bb]?=A (ic #[I N yk,I N q,I N (RY:Int),I N yv,I N yc] 49 (0,0))/\F.heap[t+1+1+1]?=A (ic S 53 (0,0))/\F.heap[(t+1+1+1+1)]?=A (ic ((λv=>(ah (mk0 g a m z) ⟨T R4 m.length c1,T pq 10 cq,T pb nu cb,v⟩).toArray) (T pv i cv)) 37 (0,0))) (.take 0 (.take 1 (.take 2 (.take 3 (.take 4 (.take 7 (.take 8 (.take 9 (.take 12 (.two 5 10 (.two 6 10 (.one 10 (.one 11 (.one 13 (.take 14 (.take 15 (.take 16 (.take 17 (.one 18 .done)))))))) (.one 6 (.one 11 (.one 13 (.take 14 (.take 15 (.take 16 (.take 17 (.one 18 .done))))))))) (.one 5 (.one 6 (.one 11 (.one 13 (.take 14 (.take 15 (.take 16 (.take 17 (.one 18 .done))))))))))))))))))) ae ae ae L (λ_ _ _ _ h=>h) ⟨bs,RU,ba⟩ ?_;obtain⟨l0,Qs⟩:=J k0.drew;have d:=aP k0;rw[<-Qs]at d⊢;have ed:=ac Y7 d;have eg:=Z ba d;have s:=Z bs d;have ej:=Z bc d;have Sl:=ac V d;have ek:=aE bg d;have em:=aE bh d;have a2:=O (Vu.below d);have br:=Z RU d;have bn:=Z b4 d;clear d Qs Y7 ba bs bc V bg bh Vu RU b4;have Y7:=ed;clear ed;have ba:=eg;clear eg;have bs:=s;clear s;have bc:=ej;clear ej;have V:=Sl;clear Sl;have bg:=ek;clear ek;have bh:=em;clear em;have Vu:=a2;clear a2;have RU:=br;clear br;have b4:=bn;clear bn;iterate 2 refine sX ?_
  (refine az (v:=jb S) rfl ag (λF U=>aY jB rfl g3 rfl rfl U.2.1) ?_;refine G ?_)
  iterate 2 refine sX ?_
  (refine az (v:=jb ((λv=>(ah (mk0 g a m z) ⟨T R4 m.length c1,T pq 10 cq,T pb nu cb,v⟩).toArray) (T pv i cv))) rfl ag (λF U=>aY jr rfl dr rfl rfl U.2.2) ?_;refine G ?_)
  iterate 3 refine sX ?_
  apply CL (.one 11 (.one 13 (.take 14 (.take 15 (.take 16 (.take 17 (.one 18 .done)))))))
  rotate_left
  ·intro TY
   refine gB ?_ ?_
   ·refine ai rfl (λK' u=>?_)
    go_simp;have d:=af l0 (ic #[I N q] 3);have Q:=mm l0 q;obtain⟨l1,C⟩:=J (l0.alloc (ic #[I N q] 3));rw[<-C]at d Q⊢;obtain⟨bu,hg⟩:=J l0.heap.size;rw[<-hg]at Q⊢;clear hg;have WM:=ac Y7 d;have UX:=Z ba d;have bn:=Z bs d;have VT:=Z bc d;have Qj:=ac V d;have Uo:=aE bg d;have VA:=aE bh d;have Wn:=O (Vu.below d);have Q5:=Z RU d;have bA:=Z b4 d;have bv:=O Q;clear Q C d;refine u _ _ ⟨bn,Q5,UX⟩ λ_=>?_
    clear u;refine G ?_;refine gB ?_ ?_
    ·refine ai rfl (λK' u=>?_)
     go_simp;refine(bN l1 _ bv.out (Rp.dig.below Qj)).mono ?_;rintro e l2 ⟨rfl,d⟩;have Tc:=ac WM d;have UV:=Z UX d;have s:=Z bn d;have Yp:=Z VT d;have Qk:=ac Qj d;have Vx:=aE Uo d;have VB:=aE VA d;have Ss:=O (Wn.below d);have QM:=Z Q5 d;have bo:=Z bA d;have Vz:=O (dw bv d);clear WM UX bn VT Qj Uo VA Wn Q5 bA bv;clear d;refine u _ _ ⟨s,QM,UV⟩ λ_=>?_
     clear u;refine G ?_;refine ai rfl (λK' u=>?_);go_simp;have d:=af l2 (ic #[I N q] 3);have Q:=mm l2 q;obtain⟨l3,C⟩:=J (l2.alloc (ic #[I N q] 3));rw[<-C]at d Q⊢;obtain⟨bk,hg⟩:=J l2.heap.size;rw[<-hg]at Q⊢;clear hg;have Um:=ac Tc d;have UW:=Z UV d;have a2:=Z s d;have Yo:=Z Yp d;have Qp:=ac Qk d;have Vh:=aE Vx d;have Vg:=aE VB d;have SP:=O (Ss.below d);have RI:=Z QM d;have bq:=Z bo d;have Yr:=O (dw Vz d);clear Tc UV s Yp Qk Vx VB Ss QM bo Vz;have Wu:=O Q;clear Q C d;refine u _ _ ⟨a2,RI,UW⟩ λ_=>?_
     clear u;refine G ?_;have hG:=(And.intro Um (And.intro UW (And.intro a2 (And.intro Yo (And.intro Qp (And.intro Vh (And.intro Vg (And.intro SP (And.intro RI (And.intro bq (And.intro Yr Wu)))))))))));exact TY bu bk l3 hG
    refine ai rfl (λK' u=>?_);go_simp;have d:=af l1 (ic #[I N q] 3);have Q:=mm l1 q;obtain⟨l2,C⟩:=J (l1.alloc (ic #[I N q] 3));rw[<-C]at d Q⊢;obtain⟨bk,hg⟩:=J l1.heap.size;rw[<-hg]at Q⊢;clear hg;have Tc:=ac WM d;have UV:=Z UX d;have s:=Z bn d;have Yp:=Z VT d;have Qk:=ac Qj d;have Vx:=aE Uo d;have VB:=aE VA d;have Ss:=O (Wn.below d);have QM:=Z Q5 d;have bo:=Z bA d;have Vz:=O (dw bv d);clear WM UX bn VT Qj Uo VA Wn Q5 bA bv;have bw:=O Q;clear Q C d;refine u _ _ ⟨s,QM,UV⟩ λ_=>?_
    clear u;refine G ?_;refine ai rfl (λK' u=>?_);go_simp;refine(bN l2 _ Vz.out (Rp.dig.below Qk)).mono ?_;rintro e l3 ⟨rfl,d⟩;have Um:=ac Tc d;have UW:=Z UV d;have a2:=Z s d;have Yo:=Z Yp d;have Qp:=ac Qk d;have Vh:=aE Vx d;have Vg:=aE VB d;have SP:=O (Ss.below d);have RI:=Z QM d;have bq:=Z bo d;have Yr:=O (dw Vz d);have Wu:=O (dw bw d);clear Tc UV s Yp Qk Vx VB Ss QM bo Vz bw;clear d;refine u _ _ ⟨a2,RI,UW⟩ λ_=>?_
    clear u;refine G ?_;have hG:=(And.intro Um (And.intro UW (And.intro a2 (And.intro Yo (And.intro Qp (And.intro Vh (And.intro Vg (And.intro SP (And.intro RI (And.intro bq (And.intro Yr Wu)))))))))));exact TY bu bk l3 hG
   refine ai rfl (λK' u=>?_);go_simp;have d:=af l0 (ic #[I N q] 3);have Q:=mm l0 q;obtain⟨l1,C⟩:=J (l0.alloc (ic #[I N q] 3));rw[<-C]at d Q⊢;obtain⟨bk,hg⟩:=J l0.heap.size;rw[<-hg]at Q⊢;clear hg;have WM:=ac Y7 d;have UX:=Z ba d;have bn:=Z bs d;have VT:=Z bc d;have Qj:=ac V d;have Uo:=aE bg d;have VA:=aE bh d;have Wn:=O (Vu.below d);have Q5:=Z RU d;have bA:=Z b4 d;have eq:=O Q;clear Q C d;refine u _ _ ⟨bn,Q5,UX⟩ λ_=>?_
   clear u;refine G ?_;refine ai rfl (λK' u=>?_);go_simp;have d:=af l1 (ic #[I N q] 3);have Q:=mm l1 q;obtain⟨l2,C⟩:=J (l1.alloc (ic #[I N q] 3));rw[<-C]at d Q⊢;obtain⟨bu,hg⟩:=J l1.heap.size;rw[<-hg]at Q⊢;clear hg;have Tc:=ac WM d;have UV:=Z UX d;have s:=Z bn d;have Yp:=Z VT d;have Qk:=ac Qj d;have Vx:=aE Uo d;have VB:=aE VA d;have Ss:=O (Wn.below d);have QM:=Z Q5 d;have bo:=Z bA d;have bw:=O (dw eq d);clear WM UX bn VT Qj Uo VA Wn Q5 bA eq;have Vz:=O Q;clear Q C d;refine u _ _ ⟨s,QM,UV⟩ λ_=>?_
   clear u;refine G ?_;refine ai rfl (λK' u=>?_);go_simp;refine(bN l2 _ Vz.out (Rp.dig.below Qk)).mono ?_;rintro e l3 ⟨rfl,d⟩;have Um:=ac Tc d;have UW:=Z UV d;have a2:=Z s d;have Yo:=Z Yp d;have Qp:=ac Qk d;have Vh:=aE Vx d;have Vg:=aE VB d;have SP:=O (Ss.below d);have RI:=Z QM d;have bq:=Z bo d;have Wu:=O (dw bw d);have Yr:=O (dw Vz d);clear Tc UV s Yp Qk Vx VB Ss QM bo bw Vz;clear d;refine u _ _ ⟨a2,RI,UW⟩ λ_=>?_
   clear u;refine G ?_;have hG:=(And.intro Um (And.intro UW (And.intro a2 (And.intro Yo (And.intro Qp (And.intro Vh (And.intro Vg (And.intro SP (And.intro RI (And.intro bq (And.intro Yr Wu)))))))))));exact TY bu bk l3 hG
  clear Y7 ba bs bc V bg bh Vu RU b4;rintro bu bk l3 ⟨Um,UW,a2,Yo,Qp,Vh,Vg,SP,RI,bq,Yr,Wu⟩;refine ai rfl (λK' u=>?_);go_simp;refine(eb l3 _ _ (Oi Tg Vh Vg SP (QU.later bf Um) (by rw[jk,jU];have:=Si.out;omega)) (by rw[jk,jU];omega) Wu (Rp.dig.below Qp)).mono ?_;rintro e l4 ⟨hx,rfl,b7,d⟩;have ce:=O b7;clear b7;have ev:=ac Um d;have cf:=Z UW d;have s:=Z a2 d;have cj:=Z Yo d;have Qt:=ac Qp d;have bO:=aE Vh d;have bT:=aE Vg d;have RR:=O (SP.below d);have Se:=Z RI d;have ba:=Z bq d;have ew:=O (dw Yr d);have e1:=O (dw Wu d);clear Um UW a2 Yo Qp Vh Vg SP RI bq Yr Wu;clear d;refine u _ _ ⟨s,Se,cf⟩ λ_=>?_
  clear u;refine G ?_;refine ai rfl (λK' u=>?_);go_simp;refine(ec l4 _ _ ce.out (bytes_of_row ba (λj aa hj=>by rw[ga,p6];simpa using hj) (kz _ _ _)) (g4.below Qt)).mono ?_;rintro e l5 ⟨c,rfl,ZP,d⟩;have RN:ih (bb+1<l4.heap.size):=O (jC.1 cj).1;obtain⟨hV,gm⟩:=J l4.heap.size;rw[<-gm]at ZP RN;have e2:=O ZP;obtain⟨pc,R,rfl⟩:=aO ZP;clear ZP;have e3:=ac ev d;have ck:=Z cf d;have bc:=Z s d;have cm:=Z cj d;have Qy:=ac Qt d;have cy:=aE bO d;have cz:=aE bT d;have TJ:=O (RR.below d);have Vo:=Z Se d;have bg:=Z ba d;have gn:=O (dw ew d);have gp:=O (dw e1 d);have gv:=O (ce.below d);clear ev cf s cj Qt bO bT RR Se ba ew e1 ce;clear d;refine u _ _ ⟨bc,Vo,ck⟩ λ_=>?_
  clear u;refine G ?_;iterate 4 refine sX ?_
  refine ai rfl (λK' u=>?_);rw[if_pos ag];refine oi 72 _ _ rfl (bb+1) 1 #[I N u0,T pc 48 R] rfl rfl (lZ (o:=1) (n:=2) cm ar) ae (by simp[jD]) ?_;rw[show(#[I N u0,T pc 48 R]:Array jc).toList=[I N u0,T pc 48 R]from rfl];obtain⟨s1,s2⟩:=CS (i:=1) (x:=I N u0) (y:=T pc 48 R) cm;have s3:jf wr wr (l5.setCells (bb+1) 1 [I N u0,T pc 48 R]):=Below.cellsFrom e3 (bb+1) (by rw[dv];omega) _ _;have cp:=lC (w':=l5.setCells (bb+1) 1 [I N u0,T pc 48 R]) e2 (λk hk=>s2 k (aw RN));refine u _ _ ⟨(s2 bb Y).trans bc,(s2 (t+1+1+1) (dS ca bf)).trans Vo,(s2 (t+1+1+1+1) (dS ca bf)).trans ck⟩ λ_=>?_
  clear u;have cs:ih ((l5.setCells (bb+1) 1 [I N u0,T pc 48 R]).heap[bb+1]?=A (ic #[I N q,I N u0,T pc 48 R] 76 (0,0))):=O s1;have cu:ih (cg M3 (t+1+1+1+1) 37 76 3 Wl.cells Wl.body (λv=>(ah (mk0 g a m z) ⟨T R4 m.length c1,T pq 10 cq,T pb nu cb,v⟩).toArray) p4 (l5.setCells (bb+1) 1 [I N u0,T pc 48 R]) i (T pv i cv) ((wl.take i).map (fD g a m z init seed)) us):=O (QU.later bf s3);have cw:ih (ap (λg=>M3<=g/\g<(l5.setCells (bb+1) 1 [I N u0,T pc 48 R]).heap.size/\(jP pv i cv).ownBlock≠A g) (l5.setCells (bb+1) 1 [I N u0,T pc 48 R]) (T pc 48 R) 1 48 (bd.map v8)):=O (ap.of_own cp (λg hg=>by
   have h1:=cp.lt g hg;have h2:=RN.out;have h3:=ca.out;have h4:=dv.out;exact⟨by omega,h1.2,bW QU.row.own (.inl Y)⟩))
  clear s1 s2 s3 cp;generalize l5.setCells (bb+1) 1 [I N u0,T pc 48 R]=kc at cs cu cw⊢;have gw:=cs;have b0:=cu;have g1:=cw;clear cs cu cw;refine G ?_;refine jE ?_;clear e3 ck bc cm Qy cy cz TJ Vo bg e2 gv gn gp QU bN eb ec;have s:=cell_of b0.row.box (kV (mk0 g a m z) (T R4 m.length c1) (T pq 10 cq) (T pb nu cb) (T pv i cv) Tg dy).2.2.1
  go_upto_region 35 with fail
  refine jo ?_;iterate 2 refine aL ?_
  refine jS rfl 76 _ rfl (bb+1) rfl 76 #[I N q,I N u0,T pc 48 R] (0,0) _ gw.out underlying76 rfl ae ?_
  go_wp2_with (at_builtin;refine Hid.out ?_)
  refine O ?_;refine jg rfl λ_ u=>Av _ _ rfl M3 (T pv i cv) i _ rfl (de b0.row.own (af kc _)) _ 1 [I N q,I N u0,T pc 48 R] rfl (ey kc [I N q,I N u0,T pc 48 R] 76 (0,0) 3 1 1 rfl (jq _)) (by simp[jD]) Y (jw b0.row.sz' (af kc _).size) λv' k9 QO=>u _ _ ?_
  clear u;have b1:=af kc (ic #[I N q,I N u0,T pc 48 R] 76);have a3:=b0.later bf b1;have e4:=(ap.keep g1 (w':=kc.alloc (ic #[I N q,I N u0,T pc 48 R] 76)) (λg hg=>b1.block g hg.2.1)).mono (D':=λg=>M3<=g/\g<(kc.alloc (ic #[I N q,I N u0,T pc 48 R] 76)).heap.size/\(jP pv i cv).ownBlock≠A g) (λg hg=>⟨hg.1,jm hg.2.1 b1.size,hg.2.2⟩);have R1:=eh a3.row.box QO.grown (bW a3.row.own (.inr bf));obtain⟨pn,cn,rfl⟩:=aO QO.own;have UZ:ih (cg M3 (t+1+1+1+1) 37 76 3 Wl.cells Wl.body (λv=>(ah (mk0 g a m z) ⟨T R4 m.length c1,T pq 10 cq,T pb nu cb,v⟩).toArray) p4 (k9.setCell ⟨(t+1+1+1+1),38,ii⟩ (T pn (i+1) cn)) (i+1) (T pn (i+1) cn) ((wl.take (i+1)).map (fD g a m z init seed)) (us++[T pc 48 R])):=O (by
   rw[SF,dn];exact cg.push (x:=(⟨q,u0,bd⟩:Wl)) a3 bf (by show ap _ _ _ 1 bd.length (bd.map v8);rw[gi];exact e4) QO (hr _ _))
  obtain⟨⟨vo,c3⟩,f3,-,-⟩:=bH (i:=38) (T pn (i+1) cn) R1 (by rw[(kV (mk0 g a m z) (T R4 m.length c1) (T pq 10 cq) (T pb nu cb) (T pv i cv) Tg dy).2.2.2];decide);clear a3 e4 QO R1 s b1
  go_wp2_with fail
  go_roundw
  case rel=>exact⟨i+1,pn,cn,us++[T pc 48 R],by go_num,by omega,UZ⟩
  case measure=>simp only[jl];omega
 obtain rfl:nw=i:=Y;have e7:decide ((nw:Int)<(nw:Int))=false:=by simp
 have e8:decide (nw<nw)=false:=by simp
 rename je=>p5;obtain⟨pe,ce,bC,bI⟩:∃(p:Option jI) (c:Nat),p=pv/\c=cv:=⟨_,_,rfl,rfl⟩;subst bC;subst bI;have b3:wl.take nw=wl:=jW (by rw[Si];exact jq _);rw[b3]at QU;have TN:=QU.row.but;have Qy:ih (jf w w p5):=O (Qt.trans (QU.row.but.below (n:=w.heap.size) (by rw[HG];omega) (dS bf HG)));have cy:=gX bO (λk a4 ad=>TN.block k (by rw[RP];exact ad) (aw b9));have cz:=gX bT (λk a4 ad=>TN.block k (by rw[RP];exact ad) (aw Rq));have TX:ih (p5.heap[(t+1+1+1+1+1)]?=A (ic SA 53 (0,0))):=O ((TN.block (t+1+1+1+1+1) b6 Y).trans RQ);have bd:iB (λk=>t+6<=k/\k<p5.heap.size) p5 (T pb nu cb) (nl.map (dZ g a m z seed)):=c6.keep (λk hk=>TN.block k hk.2 (aw a5)) (λk hk=>⟨by have:=hm.out;omega,by have:=QU.row.sz';omega⟩);have bg:=QU.slice (by rw[jk];exact Si) (D:=λk=>t+6<=k/\k<p5.heap.size) (λk h1 h2=>⟨by have:=b6.out;omega,h2⟩);obtain⟨q,hq⟩:∃y:CQ,y=⟨T R4 m.length c1,T pq 10 cq,T pb nu cb,T pe nw ce⟩:=⟨_,rfl⟩;have bq:ih (ay (λk=>t+6<=k/\k<p5.heap.size) p5 (mk1 g a m z init seed) q):=O (by
  rw[Zs,Td]at bd;rw[e0]at bg;rw[hq];exact G1 Tg cy cz bd bg (λk h1 h2=>⟨by have:=b9.out;omega,h2⟩) (λk h1 h2=>⟨by have:=dd.out;omega,h2⟩))
 obtain⟨Y1,ad⟩:=J ((ah (mk1 g a m z init seed) q).toArray);have Vv:ih (p5.heap[(t+1+1+1+1)]?=A (ic Y1 37 (0,0))):=O (by rw[ad,hq,Pt];exact QU.row.box);have ZZ:=D4 (x:=X) (init:=init) (seed:=seed) cL.symm (by rw[<-SJ];exact hB) hI R2 Tg;obtain⟨bs,bu⟩:=Jr ZZ;have bv:=O bs.encOk;have bK:=O bu.encOk;have bM:=O ad;have ba:∀c:Cmt,c.parent.length=32->c.confirm.length=32->(jd.info? 37).map (·.size)=A (ah c q).toArray.size:=λc h1 h2=>by rw[jp,dT c q h1 h2];exact fa
 have Q5:ih ((jd.info? 37).map (·.size)=A Y1.size):=O (by rw[ad];exact ba _ (by rw[(mj ..).1];exact Tg) (mj ..).2);have bN:ih (∀W,ay (·<W.heap.size) W (mk1 g a m z init seed) q->jj jd 50 #[jb Y1] W λe w'=>∃v,e=jh v/\iq W w' (mk1 g a m z init seed) v/\jf W W w'):=O (λW hW=>by
  obtain⟨l1,l2,l3,l4⟩:=bv.lens;rw[ad];exact nL _ q W hW l1 l2 l3 l4)
 obtain⟨bw,bb⟩:=J (cP sa ((aB (mk1 g a m z init seed)).take 8));obtain⟨Uf,bh⟩:=J ((bw.map v8).toArray);obtain⟨cf,bc⟩:=J (pL (fF g z init) bw);obtain⟨j,a3⟩:=J ((cf.map v8).toArray);have bk:cf.length=32:=by rw[bc];exact oX _ _
 have b0:ih (mk2 g a m z init seed={mk1 g a m z init seed with confirm:=cf}):=O (by rw[bc,bb];exact Ay ..);have b1:ih (∀W p R,ao (·<W.heap.size) W (vL ((aB (mk1 g a m z init seed)).take 8)) (T p 8 R)->cF W->jj jd 49 #[ja ⟨#[99,111,109,109,105,116,32,98,111,100,121]⟩,T p 8 R] W λe w'=>e=jh (jb Uf)/\jf W W w'):=O (λW p R hv hW=>by
  rw[bh,bb];exact kQ sa L _ _ W hv (bv.take (by rw[sC];decide) 8) hW.num hW.start)
 have b4:ih (∀W,fN W->jj jd 48 #[jb SA,jb Uf] W λe w'=>e=jh (jb j)/\jf W W w'):=O (λW hW=>by
  rw[a3,bc,ga,bh];exact LV _ _ (kz _ _ _) (by rw[bb];exact dL _ _) W hW)
 have bA:ih (j.size=32):=O (by rw[a3,jp,jk,bk]);have ca:ih (j.all (·.oneCell')=true):=O (by rw[a3];exact dB _);have cc:ih ((jd.info? 23).map (·.size)=A j.size):=O (by rw[bA];kernel_rfl);obtain⟨Y2,a2⟩:=J ((ah (mk2 g a m z init seed) q).toArray);have cd:ih (kT Y1 39 j.toList=Y2):=O (by
  rw[a2,b0,a3,ad];exact KF _ q cf (by rw[(mj ..).1];exact Tg) (mj ..).2 bk)
 have QM:ih ((jd.info? 37).map (·.size)=A Y2.size):=O (by rw[a2];exact ba _ (by rw[(mZ ..).1];exact Tg) (mZ ..).2);have cj:ih (Y1.size=73):=O (by rw[ad,jp,dT _ _ (by rw[(mj ..).1];exact Tg) (mj ..).2]);have ck:ih (Y2.size=73):=O (by rw[a2,jp,dT _ _ (by rw[(mZ ..).1];exact Tg) (mZ ..).2]);have cm:ih (∀W,ay (·<W.heap.size) W (mk1 g a m z init seed) q->cF W->jj jd 30 #[jb Y2] W λe w'=>∃D,e=jh (T (A ⟨D,0,ii⟩) 32 32)/\BytesAt w' (T (A ⟨D,0,ii⟩) 32 32) (dm (mk2 g a m z init seed))/\jf W W w'):=O (λW hC hW=>by
  rw[a2];exact El _ q W (A8 hC) bK hW)
 obtain⟨sr,bn⟩:∃y:Int,y=((kJ X (dm (mk2 g a m z init seed)):Nat):Int):=⟨_,rfl⟩;obtain⟨ss,bo⟩:∃y:Int,y=((k8 X (dm (mk2 g a m z init seed)):Nat):Int):=⟨_,rfl⟩;have cn:ih (∀W v,BytesAt W v (dm (mk2 g a m z init seed))->cF W->jj jd 51 #[I N (X:Int),v] W λe w'=>e=jh (jv #[jb #[I N sr,I N ss],I N 0])/\jf W W w'):=O (λW v hv hW=>by
  rw[bn,bo];exact Of X Sb.1 Sb.2 _ v (by unfold dm;rw[dL];decide) W hv hW)
 obtain⟨Y3,a4⟩:=J ((ah (mkC g a X m z init seed) q).toArray);have cp:ih (mkC g a X m z init seed={mk2 g a m z init seed with r:=sr,s:=ss}):=O (by rw[bn,bo];exact DF ..);have cs:ih (kT Y2 71 [I N sr,I N ss]=Y3):=O (by
  rw[a4,cp,a2];exact PO _ q sr ss (by rw[(mZ ..).1];exact Tg) (mZ ..).2)
 have RI:ih ((jd.info? 37).map (·.size)=A Y3.size):=O (by rw[a4];exact ba _ (by rw[(zf ..).1];exact Tg) (zf ..).2);have cu:ih (Y3.all (·.oneCell')=true):=O (by rw[a4,hq];exact lA _ _ _ _ _ _ _ _ _ _ _ _ _);have cw:=O a4;clear bg bd cz cy TN b3 QU ba ZZ bs bu hq ad a2 a4 bn bo bk a3 bc bh bb c6 RG RQ Se Qt bO bT b5 bM bB hi
 go_upto_region 37 with fail
 refine jF ?_;refine ij (λF=>F.heap[(t+1+1+1+1)]?=A (ic Y1 37 (0,0))/\F.heap[(t+1+1+1+1+1)]?=A (ic SA 53 (0,0))) 7 [(0,true),(1,true),(2,false),(3,true),(4,false),(5,false),(6,true),(7,false)] ae ae ae L (λ_ _ _ _ h=>h) ⟨Vv,TX⟩ ?_;obtain⟨q0,Qs⟩:=J p5.drew;have d:=aP p5;rw[<-Qs]at d⊢;have P:=Z Vv d;have H:=Z TX d;have V:=ac Qy d;have ad:=O (bq.later d);clear d Qs Vv TX Qy bq
 (refine cT (v:=jb SA) rfl ag (λF U=>aY jB rfl c9 rfl rfl U.2) ?_;refine G ?_)
 (refine cT (v:=jb Y1) rfl ag (λF U=>aY jr rfl Q5 rfl rfl U.1) ?_;refine G ?_)
 refine aR rfl (λK' u=>?_);go_simp;refine(bN q0 (ad.mono (λk hk=>hk.2))).mono ?_;rintro e q1 ⟨v,rfl,a2,d⟩;obtain⟨gc,ba,rfl,Sz⟩:∃g R,v=T (A ⟨g,0,ii⟩) 11 R/\11<=R:=by
  obtain⟨us,a3,-⟩:=a2;obtain⟨g,c,h1,h2,-⟩:=sO a3 L;exact⟨g,c,h1,h2⟩
 have bb:=O (a2.val 8 L).2;have e5:∀W,(Instr.sliceAt 109 (T (A ⟨gc,0,ii⟩) 11 ba) ii (A (I N 8)) ii).run jd W=.ok (T (A ⟨gc,0,ii⟩) 8 ba) W:=λW=>tz 109 118 4 underlying109 tT gc 0 11 ba 8 Y W
 clear a2;have QD:=Z P d;have QG:=Z H d;have Qj:=ac V d;have a3:=O (ad.later d);clear P H V ad;clear d;refine u _ _ ⟨QD,QG⟩ λ_=>?_
 clear u;refine G ?_;refine BI ?_;refine aR rfl (λK' u=>?_);go_simp;refine(b1 q1 _ _ bb.out (Rp.dig.below Qj)).mono ?_;rintro e q2 ⟨rfl,d⟩;have QE:=Z QD d;have QR:=Z QG d;have Qk:=ac Qj d;have a4:=O (a3.later d);clear QD QG Qj a3 bb;clear d;refine u _ _ ⟨QE,QR⟩ λ_=>?_
 clear u;refine G ?_;refine aR rfl (λK' u=>?_);go_simp;refine(b4 q2 (Rp.below Qk)).mono ?_;rintro e q3 ⟨rfl,d⟩;have QW:=Z QE d;have QZ:=Z QR d;have Qp:=ac Qk d;have bb:=O (a4.later d);clear QE QR Qk a4;clear d;refine u _ _ ⟨QW,QZ⟩ λ_=>?_
 clear u;refine G ?_;refine BI ?_;refine gu rfl (λK' u=>?_);rw[if_pos ag];refine oi 23 _ _ rfl (t+1+1+1+1) 39 j rfl rfl (lZ (o:=39) QW.out (by rw[cj,bA];decide)) cc ca ?_;have s1:=uQ j.toList 39 q3 Y1 QW;rw[cd]at s1;have Wr:=O s1;have Wt:=O ((rz (k:=(t+1+1+1+1+1)) (b:=(t+1+1+1+1)) Y j.toList 39 q3).trans QZ);have Ws:=O (Below.cellsFrom Qp (t+1+1+1+1) (by rw[HG];omega) j.toList 39);have a2:ih (ay (λk=>t+6<=k/\k<(q3.setCells (t+1+1+1+1) 39 j.toList).heap.size) (q3.setCells (t+1+1+1+1) 39 j.toList) (mk1 g a m z init seed) q):=O ((bb.keep (λk hk=>rz Y _ _ _)).mono (λk hk=>by rw[setCells_size];exact hk));clear s1;generalize q3.setCells (t+1+1+1+1) 39 j.toList=r0 at Wr Wt Ws a2⊢;clear QW QZ Qp bb;refine u _ _ ?_;clear u;have P:=Wr;have H:=Wt;have V:=Ws;have ad:=a2;clear Wr Wt Ws a2;refine jE ?_
 go_upto_region 38 with fail
 refine jo ?_;refine aL ?_;refine jS rfl 37 _ rfl (t+1+1+1+1) rfl 37 Y2 (0,0) _ P.out jr rfl QM ?_
 go_wp2_with fail
 refine(cm r0 (ad.mono (λk hk=>hk.2)) (Rp.dig.below V)).mono ?_;rintro e r1 ⟨hx,rfl,b7,d⟩;have bb:=O b7;clear b7;have QD:=Z P d;have QG:=Z H d;have Qj:=ac V d;have a3:=O (ad.later d);clear P H V ad;clear d
 go_wp2_with fail
 refine(cn r1 _ bb.out (Rp.dig.below Qj)).mono ?_;rintro e r2 ⟨rfl,d⟩;have QE:=Z QD d;have QR:=Z QG d;have Qk:=ac Qj d;have a4:=O (a3.later d);clear QD QG Qj a3 bb;clear d
 go_wp2_with (refine jg rfl λ_ u=>oi 35 _ _ rfl (t+1+1+1+1) 71 #[I N sr,I N ss] rfl rfl (lZ (o:=71) (n:=2) QE.out (by rw[ck];decide)) ae (by simp[jD]) (u _ _ ?_))
 have s1:=uQ [I N sr,I N ss] 71 r2 Y2 QE;rw[cs]at s1;have Wr:=O s1;have Wt:=O ((rz (k:=(t+1+1+1+1+1)) (b:=(t+1+1+1+1)) Y [I N sr,I N ss] 71 r2).trans QR);have Ws:=O (Below.cellsFrom Qk (t+1+1+1+1) (by rw[HG];omega) [I N sr,I N ss] 71);have a2:ih (ay (λk=>t+6<=k/\k<(r2.setCells (t+1+1+1+1) 71 [I N sr,I N ss]).heap.size) (r2.setCells (t+1+1+1+1) 71 [I N sr,I N ss]) (mk1 g a m z init seed) q):=O ((a4.keep (λk hk=>rz Y _ _ _)).mono (λk hk=>by rw[setCells_size];exact hk));clear s1;generalize r2.setCells (t+1+1+1+1) 71 [I N sr,I N ss]=r9 at Wr Wt Ws a2⊢;clear QE QR Qk a4;have RX:=Wr;have T0:=Wt;have Rt:=Ws;have a3:=a2;clear Wr Wt Ws a2
 go_upto_region 41 with fail
 refine jF ?_;refine bi (λF=>F.heap[(t+1+1+1+1)]?=A (ic Y3 37 (0,0))/\F.heap[(t+1+1+1+1+1)]?=A (ic SA 53 (0,0))) (.take 0 (.take 1 (.one 2 (.one 3 (.take 4 .done))))) ae ae ae L (λ_ _ _ _ h=>h) ⟨RX,T0⟩ ?_;obtain⟨u0,Qs⟩:=J r9.drew;have d:=aP r9;rw[<-Qs]at d⊢;have Te:=Z RX d;have Tf:=Z T0 d;have Sl:=ac Rt d;have a2:=O (a3.later d);clear d Qs RX T0 Rt a3;have P:=Te;clear Te;have H:=Tf;clear Tf;have V:=Sl;clear Sl;have ad:=a2;clear a2
 (refine az (v:=jb Y3) rfl ag (λF U=>aY jr rfl RI rfl rfl U.1) ?_;refine G ?_)
 (refine az (v:=jb SA) rfl ag (λF U=>aY jB rfl c9 rfl rfl U.2) ?_;refine G ?_)
 refine ai rfl (λK' u=>?_);rw[if_pos ag];refine jn 37 _ _ rfl (t+1+1+1+1) Y3 rfl rfl 37 _ P.out RI rfl cu ?_;rw[du P];refine u _ _ ⟨P,H⟩ λ_=>?_
 clear u;refine G ?_;refine ai rfl (λK' u=>?_);rw[if_pos ag];refine jn 53 _ _ rfl (t+1+1+1+1+1) SA rfl rfl 53 _ H.out c9 rfl ha ?_;rw[du H];refine u _ _ ⟨P,H⟩ λ_=>?_
 clear u;refine G ?_;refine aC ?_;refine jE ?_
 go_wp2_with fail
 refine jQ (nU rfl _ _ (t+1+1+1+1) (t+1+1+1+1+1) 37 53 Y3 SA (0,0) (0,0) _ _ rfl rfl P H jr rfl RI jB rfl c9) rfl ⟨λ_=>⟨q,?_,?_⟩,λh=>absurd T1 h,V⟩
 ·rw[cw,ga,qz]
  rfl
 rw[qz];exact(NF (x:=X) ad).mono (λk hk=>⟨by have h1:=HG.out;have h2:=hk.1;omega,hk.2⟩)
theorem sR:(jd.info? 118).map (·.size)=A 4:=by kernel_rfl
theorem Cr{B g:Nat}{e:jy}{sz n:Nat}{w w':je}{v:jc}{xs:List jc}(h:w.ownsRow B e sz v n xs)(b:kC g w w')(l:g<B):w'.ownsRow B e sz v n xs:=by
 refine⟨h.1,?_⟩
 rcases h.2 with a|⟨k,c,d,f,a,i,j⟩
 ·exact .inl a
 exact .inr ⟨k,c,d,f,a,(b.block k Y).trans i,j⟩
theorem iA(n:Int)(w:je):
 jj jd 134 #[I N n] w λe w'=>e=jh (jb #[I N 1,I N n,ja ⟨#[]⟩,T ii 0 0])/\jf w w w':=by
 go_enter func134,ntmps134
 go_wp2_with fail
 exact kn (v:=jb #[I N 1,I N n,ja ⟨#[]⟩,T ii 0 0]) (by simp[results,results134,go_sem]) rfl ⟨rfl,(jM _ _).alloc (jq _) _⟩
theorem uP(s:ByteArray)(w:je):
 jj jd 135 #[ja s] w λe w'=>e=jh (jb #[I N 2,I N 0,ja s,T ii 0 0])/\jf w w w':=by
 go_enter func135,ntmps135
 go_wp2_with fail
 exact kn (v:=jb #[I N 2,I N 0,ja s,T ii 0 0]) (by simp[results,results135,go_sem]) rfl ⟨rfl,(jM _ _).alloc (jq _) _⟩
theorem lV(p:Option jI)(n c:Nat)(w:je):
 jj jd 63 #[T p n c] w λe w'=>e=jh (jb #[I N 3,I N 0,ja ⟨#[]⟩,T p n c])/\jf w w w':=by
 go_enter func63,ntmps63
 go_wp2_with fail
 exact kn (v:=jb #[I N 3,I N 0,ja ⟨#[]⟩,T p n c]) (by simp[results,results63,go_sem]) rfl ⟨rfl,(jM _ _).alloc (jq _) _⟩
theorem EQ(l:LBy)(h:l.length=32)(w:je):
 jj jd 136 #[jb (l.map v8).toArray] w λe w'=>e=jh (jb #[I N 2,I N 0,ja (ofB l),T ii 0 0])/\jf w w w':=by
 obtain⟨a,b⟩:=J ((l.map v8).toArray);have i:BytesAt ((w.alloc (ic a 23)).alloc (ic #[I N 0,I N 0,ja ⟨#[]⟩,T ii 0 0] 118)) (T (A ⟨w,0,ii⟩) 32 32) l:=by
  have c:=ji w (ic a 23);have d:=af (w.alloc (ic a 23)) (ic #[I N 0,I N 0,ja ⟨#[]⟩,T ii 0 0] 118);exact bytes_of_row (av c d) (λj g f=>by rw[b,p6];simpa using f) h
 have c:=af w (ic a 23);have j:=af (w.alloc (ic a 23)) (ic #[I N 0,I N 0,ja ⟨#[]⟩,T ii 0 0] 118);have d:=ji (w.alloc (ic a 23)) (ic #[I N 0,I N 0,ja ⟨#[]⟩,T ii 0 0] 118);rw[js]at d;have f:=lW i;rw[pU]at f;have n:a.size=32:=by rw[b,jp,jk];exact h
 rw[<-b];obtain⟨s,k⟩:=J (ofB l);rw[<-k]at f⊢;have g:=O (c.trans (j.mono c.size));have m:=O d;clear i b k c j d
 go_enter func136,ntmps136
 go_wp2_with fail
 refine(uP s _).mono ?_;rintro e c ⟨rfl,b⟩;have d:=av m b;have i:=g.trans (b.mono g.size);clear f m g b
 go_wp2_with (refine jg rfl λ_ b=>jn 118 _ _ rfl (w.heap.size+1) #[I N 2,I N 0,ja s,T ii 0 0] rfl rfl 118 _ d sR rfl (by simp[jD]) (b _ _ ?_))
 have b:=ju c (w.heap.size+1) _ #[I N 2,I N 0,ja s,T ii 0 0] _ _ d;have f:=jA i (Nat.le_succ _) #[I N 2,I N 0,ja s,T ii 0 0];generalize c.setRow (w.heap.size+1) #[I N 2,I N 0,ja s,T ii 0 0]=g at b f⊢;exact kn (v:=jb #[I N 2,I N 0,ja s,T ii 0 0]) (results_cell_row rfl _ _ (w.heap.size+1) 118 _ (0,0) _ rfl b underlying118 rfl sR) rfl ⟨rfl,f⟩
theorem zo(l:List Int)(v:jc)(w:je)(hv:cH w v l)(hl:l.length<=1000000):
 jj jd 133 #[v] w λe w'=>∃S,e=jh (jb #[I N 3,I N 0,ja ⟨#[]⟩,S])/\w'.ownsRow w 118 4 S l.length (dD l)/\jf w w w':=by
 obtain⟨p,c,rfl,hc,a⟩:=hv;obtain⟨n,b⟩:=J l.length;rw[<-b]at hc hl a⊢;have U:=O b;have V:=O a;clear b a
 go_enter func133,ntmps133
 go_wp2_with fail
 obtain⟨W,g⟩:=J ((w.alloc (ic #[I N 0,I N 0,ja ⟨#[]⟩,T ii 0 0] 118)).alloc (ic #[I N 3,I N 0,ja ⟨#[]⟩,T ii 0 0] 118));have h:=af w (ic #[I N 0,I N 0,ja ⟨#[]⟩,T ii 0 0] 118);have b:=ji w (ic #[I N 0,I N 0,ja ⟨#[]⟩,T ii 0 0] 118);have i:=af (w.alloc (ic #[I N 0,I N 0,ja ⟨#[]⟩,T ii 0 0] 118)) (ic #[I N 3,I N 0,ja ⟨#[]⟩,T ii 0 0] 118);have d:=ji (w.alloc (ic #[I N 0,I N 0,ja ⟨#[]⟩,T ii 0 0] 118)) (ic #[I N 3,I N 0,ja ⟨#[]⟩,T ii 0 0] 118);replace b:=av b i;rw[js]at d;have j:=h.trans (i.mono h.size);rw[<-g]at b d j⊢;obtain⟨a,f⟩:=J w.heap.size;rw[<-f]at b d⊢;have K:=O f;have C:=O b;have k:=O d;have r:=O j;have m:ih (a+2<=W.heap.size):=O (by rw[g,js,js,f];exact jq _);clear h i g b d j f
 go_loopw [4] (λv wr=>∃(i:Nat) (f:jc),v=I N i/\i<=n/\ih (wr.heap[a]?=A (ic #[I N 0,I N 0,ja ⟨#[]⟩,T ii 0 0] 118 (0,0)))/\ih (wr.heap[a+1]?=A (ic #[I N 3,I N 0,ja ⟨#[]⟩,f] 118 (0,0)))/\ih (wr.ownsRow (a+2) 118 4 f i (dD (l.take i)))/\ih (jf a w wr/\a+2<=wr.heap.size)) (λv _=>n-(jl v).toNat)
 case atStart=>exact⟨0,_,rfl,jH _,C,k,O (by simpa [dD,aX]using lm W (a+2) 118 4),O ⟨by rw[K];exact r,m⟩⟩
 clear C k r m;obtain⟨i,f,rfl,hi,M,u,D,j⟩:=hrel
 by_cases X:i<n
 ·have hd:=aj ((i:Int)<(n:Int))
  have Q3:=aj (i<n);obtain⟨g,o,rfl,k⟩:=V Y;have b:i<l.length:=by rw[<-U];exact X
  have z:l.getD i 0=l[i]:=by simp[j1,b]
  obtain⟨y,d⟩:=J (l.getD i 0);have E:=k i X;rw[<-d]at E;have h:g<a:=by rw[K];exact eR E
  have P:wr.cell? ⟨g,o+i,ii⟩=A (I N y):=(bE (j.1.block g h)).trans E;have HT:ih (dD (l.take (i+1))=dD (l.take i)++[I N 1,I N y,ja ⟨#[]⟩,T ii 0 0]):=O (by
   rw[qt b,za,d,z])
  obtain⟨s,t,rfl⟩:=aO D;have m:wr.drew.heap[a+1]?=A (ic #[I N 3,I N 0,ja ⟨#[]⟩,T s i t] 118 (0,0))/\wr.drew.cell? ⟨g,o+i,ii⟩=A (I N y):=⟨u,P⟩;have x:=O (de D (aP wr));have q:ih (jf a w wr.drew/\a+2<=wr.drew.heap.size):=O ⟨j.1.trans ((aP wr).mono (aU j.2)),j.2⟩;have B:ih (wr.drew.heap[a]?=A (ic #[I N 0,I N 0,ja ⟨#[]⟩,T ii 0 0] 118 (0,0))):=O M;have ad:=O h;clear z d E P k b V M u D j h
  go_upto_region 5 with fail
  refine jF ?_;refine ij (λb=>b.heap[a+1]?=A (ic #[I N 3,I N 0,ja ⟨#[]⟩,T s i t] 118 (0,0))/\b.cell? ⟨g,o+i,ii⟩=A (I N y)) 10 [(0,true),(1,true),(2,true),(3,true),(4,true),(5,true),(6,false),(7,false),(8,false),(9,true),(10,false)] ae ae ae L (λ_ _ _ _ h=>h) m ?_;generalize wr.drew=wa at m x q B⊢;refine ci ?_
  (refine cT (v:=?_) rfl ag (λb d=>?_) ?_;rotate_left;(have k:=cell_of (i:=3) d.1 rfl;go_simp;with_reducible rfl);refine G ?_)
  iterate 3 refine ci ?_
  (refine cT (v:=?_) rfl ag (λb d=>?_) ?_;rotate_left;(have k:=d.2;go_simp;with_reducible rfl);refine G ?_)
  refine aR rfl (λQ d=>?_);go_simp;refine(iA y wa).mono ?_;rintro e k ⟨rfl,b⟩;refine d _ _ ⟨av m.1 b,(bE (b.block g (eR m.2))).trans m.2⟩ λz=>?_
  have R:=aE x b;have r:ih (jf a w k/\a+2<=k.heap.size):=O ⟨q.1.trans (b.mono (aU q.2)),jw q.2 b.size⟩;have C:=Z B b;clear d b m x q B;refine G ?_;refine aR rfl (λQ d=>?_);go_simp;have b:=af k (ic #[I N 1,I N y,ja ⟨#[]⟩,T ii 0 0] 118);have x:=ey k [I N 1,I N y,ja ⟨#[]⟩,T ii 0 0] 118 (0,0) 4 1 1 rfl (jq _);refine d _ _ ⟨av z.1 b,(bE (b.block g (eR z.2))).trans z.2⟩ λF=>?_
  replace x:bZ (k.alloc (ic #[I N 1,I N y,ja ⟨#[]⟩,T ii 0 0] 118)) (T (A ⟨k,0,ii⟩) 1 1) 4 1 [I N 1,I N y,ja ⟨#[]⟩,T ii 0 0]:=x;generalize k.alloc (ic #[I N 1,I N y,ja ⟨#[]⟩,T ii 0 0] 118)=wc at b x F⊢;have m:=aE R b;have q:ih (jf a w wc/\a+2<=wc.heap.size):=O ⟨r.1.trans (b.mono (aU r.2)),jw r.2 b.size⟩;have H:=Z C b;have Q6:=O x;clear d b x z R r C;refine G ?_;refine aR rfl (λQ d=>?_);rw[if_pos ag];refine il _ _ rfl (a+2) (T s i t) _ _ rfl m _ 1 _ rfl Q6 (by simp[jD]) Y q.2 λv' x b=>?_
  obtain⟨z,B,rfl⟩:=aO b.own;have aa:=eh F.1 b.grown (bW m (.inr Y));have Tk:=(bE (b.grown.block g (eR F.2) (λe=>bW m (.inr (aw ad)) e.symm))).trans F.2;have RQ:=O (eh H b.grown (bW m (.inr Y)));have Z8:=O b.own;have R:ih (jf a w x/\a+2<=x.heap.size):=O ⟨q.1.trans ((b.below m q.2).mono Y),jw q.2 b.grown.size⟩;refine d _ _ ⟨aa,Tk⟩ λWg=>?_
  clear d F b m q H Q6 aa Tk;refine G ?_;refine ci ?_;refine gu rfl (λQ d=>?_);obtain⟨⟨vo,F⟩,f3,Q,b⟩:=bH (i:=3) (T z (i+1) B) Wg.1 ar;go_simp;refine d _ _ ?_;have TX:=O ((b.block a Y).trans RQ);have aa:ih ((x.setCell ⟨a+1,3,ii⟩ (T z (i+1) B)).heap[a+1]?=A (ic #[I N 3,I N 0,ja ⟨#[]⟩,T z (i+1) B] 118 (0,0))):=O Q;have TI:=O (Cr Z8 b Y);have Qy:ih (jf a w (x.setCell ⟨a+1,3,ii⟩ (T z (i+1) B))/\a+2<=(x.setCell ⟨a+1,3,ii⟩ (T z (i+1) B)).heap.size):=O ⟨R.1.trans (b.below Y),by rw[b.size];exact R.2⟩;generalize x.setCell ⟨a+1,3,ii⟩ (T z (i+1) B)=wz at TX aa TI Qy⊢;clear d F f3 Q b Z8 R RQ;refine jE ?_
  go_wp2_with fail
  refine⟨⟨i+1,_,by go_num,by omega,TX,aa,O (by rw[HT];exact TI),Qy⟩,?_⟩;simp only[jl];omega
 have hd:=ak ((i:Int)<(n:Int));have Q3:=ak (i<n);obtain rfl:i=n:=Y;have g:=ju wr a _ #[I N 3,I N 0,ja ⟨#[]⟩,f] _ _ M.out;have o:∀k,k≠a->(wr.setRow a #[I N 3,I N 0,ja ⟨#[]⟩,f]).heap[k]?=wr.heap[k]?:=λk hk=>jt wr a k _ hk
 have b:=jA j.1 (jq _) #[I N 3,I N 0,ja ⟨#[]⟩,f];have x:(wr.setRow a #[I N 3,I N 0,ja ⟨#[]⟩,f]).ownsRow (a+2) 118 4 f i (dD l):=by
  have h:=Cr D (⟨b.os.trans j.1.os.symm,b.tape.trans j.1.tape.symm,b.output.trans j.1.output.symm,by simp[World.setRow],o⟩:kC a wr (wr.setRow a #[I N 3,I N 0,ja ⟨#[]⟩,f])) Y;rw[jW (by rw[<-U];exact jq _)]at h;exact h
 have H:=O g;have q:=O b;have m:=O x;have E:=cell_of (i:=0) u rfl;have P:=cell_of (i:=1) u rfl;have h:=cell_of (i:=2) u rfl;have F:=cell_of (i:=3) u rfl;obtain⟨s,t,rfl⟩:=aO D;clear g o b x
 go_wp2_with (refine jg rfl λ_ d=>jn 118 _ _ rfl a #[I N 3,I N 0,ja ⟨#[]⟩,T s i t] rfl rfl 118 _ M.out sR rfl (by simp[jD]) (d _ _ ?_))
 generalize wr.setRow a #[I N 3,I N 0,ja ⟨#[]⟩,T s i t]=b at H q m⊢;exact kn (v:=jb #[I N 3,I N 0,ja ⟨#[]⟩,T s i t]) (results_cell_row rfl _ _ a 118 _ (0,0) _ rfl H underlying118 rfl sR) rfl ⟨_,rfl,k6 m (aw K),by have:=K.out;subst this;exact q⟩
structure Bls(M:Nat)(w0 wr:je)(l:List Val)(a:jc)(b:List jc):Prop where
 own:wr.ownsRow M 118 4 a l.length (aX l b)
 kids:ax (λg=>M<=g/\g<wr.heap.size/\a.ownBlock≠A g) wr l b
 low:jf M w0 wr
 sz:M<=wr.heap.size
theorem Bls.start(W:je):Bls W.heap.size W (W.alloc (ic #[] 118)) [] (T (A ⟨W,0,ii⟩) 0 0) []:=
 ⟨iL W [] 118 4 0 W.heap.size (jq _) rfl (jH _),by rw[ax],af W _,by rw[js];omega⟩
theorem Bls.later{M:Nat}{w0 wr d:je}{l:List Val}{e:jc}{c:List jc}(h:Bls M w0 wr l e c)(a:jf wr wr d):Bls M w0 d l e c:=
 ⟨de h.own a,ax.mono (λg b=>⟨b.1,jm b.2.1 a.size,b.2.2⟩) l c (ax.keep (λg b=>a.block g b.2.1) l c h.kids),h.low.trans (a.mono h.sz),jw h.sz a.size⟩
theorem Bls.push{M:Nat}{w0 a j:je}{l:List Val}{i k:jc}{c:List jc}(h:Bls M w0 a l i c){x:Val}{d:jc}
 (o:ao (λg=>M<=g/\g<a.heap.size/\i.ownBlock≠A g) a x d) (f:aW M 118 4 a j i k (l.length+1) (aX l c++eo x d)):Bls M w0 j (l++[x]) k (c++[d]):=by
 have p:=h.kids.len;have m:∀g,(M<=g/\g<a.heap.size/\i.ownBlock≠A g)->j.heap[g]?=a.heap[g]?:=λg b=>f.grown.block g b.2.1 (λe=>b.2.2 e.symm)
 have n:∀g,(M<=g/\g<a.heap.size/\i.ownBlock≠A g)->(M<=g/\g<j.heap.size/\k.ownBlock≠A g):=λg b=>
  ⟨b.1,jm b.2.1 f.grown.size,f.ne b.2.1 b.2.2⟩
 refine⟨?_,ax.append (ax.mono n _ _ (ax.keep m _ _ h.kids)) (ax.one (ao.mono n _ _ (ao.keep m _ _ o))),h.low.trans (f.below h.own h.sz),jw h.sz f.grown.size⟩;have e:aX (l++[x]) (c++[d])=aX l c++eo x d:=by
  rw[nf l [x] c [d] p];simp[aX]
 rw[e,jG];exact f.own
theorem Bls.fresh{M:Nat}{w0 a b:je}{l:List Val}{c:jc}{f:List jc}(h:Bls M w0 a l c f)(o:jf a a b){e:jy}{sz n:Nat}{d:jc}{xs:List jc}(i:b.ownsRow a e sz d n xs):
 ∀g,d.ownBlock=A g->M<=g/\g<b.heap.size/\c.ownBlock≠A g:=λg j=>by
 obtain⟨k,m⟩:=i.lt g j;exact⟨jw h.sz k,m,λe=>by have:=(h.own.lt g e).2;omega⟩
theorem Bls.fin{M:Nat}{w0 wr:je}{l:List Val}{c:jc}{b:List jc}(h:Bls M w0 wr l c b):ao (λg=>M<=g/\g<wr.heap.size) wr (vL l) c:=by
 rw[vL,ao];exact⟨b,ap.of_own h.own (λg a=>h.own.lt g a),ax.mono (λg a=>⟨a.1,a.2.1⟩) l b h.kids⟩
theorem sH{p q:Prop}(k:q)(h:q->p:=by intro k;refine az (v:=?_) rfl ag (λW' hS=>?_) ?_;rotate_left;(have e0:=cell_of (i:=0) hS.1 rfl;have e1:=cell_of (i:=1) hS.1 rfl;have e2:=cell_of (i:=2) hS.1 rfl;have e3:=cell_of (i:=3) hS.1 rfl;go_simp;with_reducible rfl);refine G ?_;exact k):p:=h k
theorem wD{p q:Prop}(k:q)(h:q->p:=by intro k;refine az (v:=?_) rfl ag (λW' hS=>?_) ?_;rotate_left;(have e0:=cell_of (i:=0) hS.1 rfl;have e1:=cell_of (i:=1) hS.1 rfl;have e2:=cell_of (i:=2) hS.1 rfl;go_simp;with_reducible rfl);refine G ?_;exact k):p:=h k
theorem Cc(c:Cmt)(q:CQ)(w:je)(f:ay (·<w.heap.size) w c q)(l1:c.chg.length<=1000000)(l2:c.path.length<=1000000)(l3:c.box.length<=1000000)(l4:c.wel.length<=1000000):
 jj jd 64 #[jb (ah c q).toArray] w λe w'=>∃v,e=jh v/\iq w w' c v/\jf w w w':=by
 have d:cI (w.alloc (ic (ah c q).toArray 37)) w.heap.size c q:=⟨ji w _,f.plen,f.clen⟩;have g:=af w (ic (ah c q).toArray 37);have u:=O f;obtain⟨Qz,h⟩:=J ((ah c q).toArray);rw[<-h]at d g⊢;have Tr:=O h;obtain⟨b,i⟩:=J w.heap.size;rw[<-i]at d;have SE:=O i;obtain⟨W1,j⟩:=J (w.alloc (ic Qz 37));rw[<-j]at d g;have z:=O d;have p:=O g;have k:=O j;have B:ih (b<W1.heap.size):=O (jC.1 d.blk).1;clear d g f h i j
 go_enter func64,ntmps64
 go_upto_region 1 with fail
 rw[<-k,<-SE];clear k;obtain⟨c0,c1,Ts,SG,Vq,Uk,Ul,Yb,Yd⟩:=eE c q u.plen u.clen;have Vd:=O SG;obtain⟨Yc,p1,q1,ad,VH,bb,RO⟩:=u.chg;obtain⟨K,UP⟩:=J c.chg.length;rw[ad]at Vd;rw[<-UP]at Vd l1 VH;have S8:=O UP;have C:=O RO;clear c0 c1 Ts SG Vq Uk Ul Yb Yd Yc ad bb UP RO;obtain⟨M,d⟩:=J W1.heap.size;have Rp:ih (Bls M W1 (W1.alloc (ic #[] 118)) [] (T (A ⟨M,0,ii⟩) 0 0) []):=O (by rw[d];exact Bls.start W1);have Sk:=O d;have bu:ih (b<M):=O (by rw[d];exact B);have bq:ih (w.heap.size<=M):=O (by rw[d];exact p.size);clear d
 go_wp2_with fail
 rw[<-Sk]
 go_loopw [3,4] (λv3 v wr=>∃(i:Nat) (vr:jc) (us:List jc),vr=v3/\v=I N i/\i<=K/\ih (Bls M W1 wr ((c.chg.take i).map Chg.val) vr us)) (λ_ v _=>K-(jl v).toNat)
 case atStart=>exact⟨0,_,[],rfl,rfl,jH _,Rp⟩
 clear Rp;obtain⟨i,vr,us,rfl,rfl,hi,m⟩:=hrel;have a3:ih (cI wr b c q):=O (z.keep (m.low.block b bu));have cL:=a3.get Vd
 by_cases a4:i<K
 ·have hd:=aj ((i:Int)<(K:Int))
  have Q3:=aj (i<K);obtain⟨g,o,rfl,al,a5⟩:=C (aw S8);obtain⟨x,r,T8⟩:=m5 (l:=c.chg) (j:=i) (by rw[<-S8];exact a4);have R6:wr.heap[g]?=w.heap[g]?:=(m.low.block g (jm al bq)).trans (p.block g al);have P:=λk hk=>(bE (a:=⟨g,o+(i*5+k),ii⟩) R6).trans (a5 (i*5+k) _ ((flat_get Chg.cells 5 (λ_=>rfl) c.chg i k x r hk).trans (show x.cells[k]?=A (x.cells.getD k (I N 0)) by have:x.cells.length=5:=rfl;simp[j1,jV (show k<x.cells.length by omega)])))
  have d0:wr.cell? ⟨g,o+i*5,ii⟩=A (I N x.k):=P 0 L;have d1:wr.cell? ⟨g,o+i*5+1,ii⟩=A (I N x.d):=P 1 L;have d2:wr.cell? ⟨g,o+i*5+2,ii⟩=A (I N x.p):=P 2 L;have s:wr.cell? ⟨g,o+i*5+3,ii⟩=A (I N x.v):=P 3 L;have d:wr.cell? ⟨g,o+i*5+4,ii⟩=A (I N x.c):=P 4 L;have SF:=O T8;clear R6 P a5 r T8 al;obtain⟨pv,cv,Q⟩:=aO m.own;have au:((c.chg.take i).map Chg.val).length=i:=by rw[jk,jU,<-S8];omega
  rw[au]at Q;have UQ:=O au;subst Q;clear au
  go_upto_region 6 with fail
  obtain⟨bx,a1⟩:=J wr.heap.size;have aa:=ji wr (ic #[I N x.k,I N x.d,I N x.p,I N x.v,I N x.c] 49);have U:=af wr (ic #[I N x.k,I N x.d,I N x.p,I N x.v,I N x.c] 49);have SX:ih ((jP pv i cv).ownBlock≠A bx):=O (bW m.own (.inl (jz a1.symm)));rw[<-a1]at aa⊢;obtain⟨D,S2⟩:=J (wr.alloc (ic #[I N x.k,I N x.d,I N x.p,I N x.v,I N x.c] 49));rw[<-S2]at aa U⊢;have E:ih (Bls M W1 D ((c.chg.take i).map Chg.val) (T pv i cv) us):=O (m.later U);have HE:=O aa;clear aa U S2 a1 m a3 cL d0 d1 d2 s d;have h:=cell_of (i:=0) HE rfl;have n:=cell_of (i:=1) HE rfl;have y:=cell_of (i:=2) HE rfl;have F:=cell_of (i:=3) HE rfl;have H:=cell_of (i:=4) HE rfl;have d:cH (D.alloc (ic #[I N x.k,I N x.d,I N x.p,I N x.v,I N x.c] 3)) (T (A ⟨D,0,ii⟩) 5 5) [x.k,x.d,x.p,x.v,x.c]:=C7 D [x.k,x.d,x.p,x.v,x.c] 3;have t:=O d;have f:=O (af D (ic #[I N x.k,I N x.d,I N x.p,I N x.v,I N x.c] 3));clear d
  go_wp2_with fail
  obtain⟨R,d⟩:=J (D.alloc (ic #[I N x.k,I N x.d,I N x.p,I N x.v,I N x.c] 3));rw[<-d]at t f⊢;clear d h n y F H;refine(zo _ _ R t ar).mono ?_;rintro e h ⟨S,rfl,y,d⟩;obtain⟨n,V,rfl⟩:=aO y;have F:ih (h.ownsRow D 118 4 (T n 5 V) 5 (dD [x.k,x.d,x.p,x.v,x.c])):=O (k6 y f.size);have H:=ac f d;clear y d t f;have U:=af h (ic #[I N 3,I N 0,ja ⟨#[]⟩,T n 5 V] 118);have t:=aE F U;have y:=ac H U;have QX:=O (E.later y);have Z5:=O (lX (l:=[x.k,x.d,x.p,x.v,x.c]) t (E.fresh y t));have Q6:ih (bZ (h.alloc (ic #[I N 3,I N 0,ja ⟨#[]⟩,T n 5 V] 118)) (T (A ⟨h,0,ii⟩) 1 1) 4 1 [I N 3,I N 0,ja ⟨#[]⟩,T n 5 V]):=O (ey h [I N 3,I N 0,ja ⟨#[]⟩,T n 5 V] 118 (0,0) 4 1 1 rfl (jq _));clear U F H E
  go_wp2_with (at_builtin;refine Hid.out ?_)
  refine O ?_;refine jg rfl λ_ f=>il _ _ rfl M (T pv i cv) _ _ rfl QX.own _ 1 _ rfl Q6 (by simp[jD]) (by rw[UQ];omega) QX.sz λv' wf HG=>f _ _ ?_
  have Qx:=HG.own;rw[UQ]at Qx;obtain⟨pn,cn,rfl⟩:=aO Qx;have Zh:=O (QX.push (x:=Chg.val x) Z5 HG);clear f Qx HG QX Z5 t y Q6
  go_wp2_with fail
  refine⟨⟨i+1,_,_,rfl,by go_num,by omega,by rw[SF,j0];exact Zh⟩,?_⟩;simp only[jl];omega
 have hd:=ak ((i:Int)<(K:Int));have Q3:=ak (i<K);have ba:c.chg.take i=c.chg:=jW (by rw[<-S8];omega);replace m:ih (Bls M W1 wr (c.chg.map Chg.val) vr us):=O (by rw[<-ba];exact m);clear ba C;obtain⟨Va,U9,Q⟩:=aO m.own;rw[jk,<-S8]at Q;subst Q;have Zi:=O m.fin;have S:ih (jf w w wr):=O (p.trans (m.low.mono bq));have bv:ih (b<wr.heap.size):=O (jm bu m.sz);have bC:ih (M<=wr.heap.size):=O m.sz
 go_upto_region 7 with fail
 clear m Vd cL hi a4 hd Q3 z p B;rename je=>W2;rename ih (cI W2 b c q)=>aki;obtain⟨c0,c1,Ts,SG,Vq,Uk,Ul,Yb,Yd⟩:=eE c q u.plen u.clen;have Vd:=O Uk;obtain⟨ub,⟨Yc,p1,q1,ad,VH,bb,RO⟩,bm⟩:=u.box;have bI:=O bm;clear bm;obtain⟨R,UP⟩:=J c.box.length;rw[ad]at Vd;rw[<-UP]at Vd l3 VH;have Uh:=O UP;have QE:=O RO;clear c0 c1 Ts SG Vq Uk Ul Yb Yd Yc ad bb UP RO;obtain⟨W,h⟩:=J W2.heap.size;have Rp:ih (Bls W W2 (W2.alloc (ic #[] 118)) [] (T (A ⟨W,0,ii⟩) 0 0) []):=O (by rw[h];exact Bls.start W2);have Ru:=O h;have bw:ih (b<W):=O (by rw[h];exact bv);have bo:ih (w.heap.size<=W):=O (by rw[h];exact S.size);clear h
 go_wp2_with fail
 rw[<-Ru]
 go_loopw [6,7] (λv3 v wr=>∃(i:Nat) (vr:jc) (us:List jc),vr=v3/\v=I N i/\i<=R/\ih (Bls W W2 wr ((c.box.take i).map Bx.val) vr us)) (λ_ v _=>R-(jl v).toNat)
 case atStart=>exact⟨0,_,[],rfl,rfl,jH _,Rp⟩
 clear Rp;obtain⟨i,vr,us,rfl,rfl,hi,m⟩:=hrel;have a3:ih (cI wr b c q):=O (aki.keep (m.low.block b bw));have cL:=a3.get Vd
 by_cases a4:i<R
 ·have hd:=aj ((i:Int)<(R:Int))
  have Q3:=aj (i<R);obtain⟨g,o,rfl,al,a5⟩:=QE (aw Uh);obtain⟨x,r,T8⟩:=m5 (l:=c.box) (j:=i) (by rw[<-Uh];exact a4);have R6:wr.heap[g]?=w.heap[g]?:=(m.low.block g (jm al bo)).trans (S.block g al);obtain⟨ux,Uv,Tb⟩:=bI.at (i:=i) (b:=x.body) (by rw[j5,r];rfl);obtain⟨z,B,rfl⟩:=Tb.form;have P:=λk hk=>(bE (a:=⟨g,o+(i*4+k),ii⟩) R6).trans (a5 (i*4+k) _ ((oA Bx.cells 4 (λ_ _=>rfl) c.box ub i k x _ r Uv hk).trans (show(x.cells (T z x.body.length B))[k]?=A ((x.cells (T z x.body.length B)).getD k (I N 0)) by have:(x.cells (T z x.body.length B)).length=4:=rfl;simp[j1,jV (show k<(x.cells (T z x.body.length B)).length by omega)])))
  have d0:wr.cell? ⟨g,o+i*4,ii⟩=A (I N x.node):=P 0 L;have d1:wr.cell? ⟨g,o+i*4+1,ii⟩=A (I N x.lev):=P 1 L;have d2:wr.cell? ⟨g,o+i*4+2,ii⟩=A (I N x.u):=P 2 L;have s:wr.cell? ⟨g,o+i*4+3,ii⟩=A (T z x.body.length B):=P 3 L;clear Uv;have SF:=O T8;clear R6 P a5 r T8 al;obtain⟨pv,cv,Q⟩:=aO m.own;have au:((c.box.take i).map Bx.val).length=i:=by rw[jk,jU,<-Uh];omega
  rw[au]at Q;have UQ:=O au;subst Q;clear au
  go_upto_region 12 with fail
  obtain⟨bx,a1⟩:=J wr.heap.size;have aa:=ji wr (ic #[I N x.node,I N x.lev,I N x.u,T z x.body.length B] 74);have U:=af wr (ic #[I N x.node,I N x.lev,I N x.u,T z x.body.length B] 74);have SX:ih ((jP pv i cv).ownBlock≠A bx):=O (bW m.own (.inl (jz a1.symm)));rw[<-a1]at aa⊢;obtain⟨D,S2⟩:=J (wr.alloc (ic #[I N x.node,I N x.lev,I N x.u,T z x.body.length B] 74));rw[<-S2]at aa U⊢;have E:ih (Bls W W2 D ((c.box.take i).map Bx.val) (T pv i cv) us):=O (m.later U);have HE:=O aa;clear aa U S2 a1 m a3 cL d0 d1 d2 s;have br:=O Tb;have RE:ih (D.drew.heap[bx]?=A (ic #[I N x.node,I N x.lev,I N x.u,T z x.body.length B] 74 (0,0))):=HE;have a2:ih (BytesAt D.drew (T z x.body.length B) x.body):=O ((Tb.keep λg s=>(E.low.block g (jm s bo)).trans (S.block g s)).bytes);replace E:=O (E.later (aP D));clear Tb HE;refine jF ?_;refine bi (λt=>t.heap[bx]?=A (ic #[I N x.node,I N x.lev,I N x.u,T z x.body.length B] 74 (0,0))/\BytesAt t (T z x.body.length B) x.body) (.take 0 (.take 1 (.take 2 (.take 4 (.take 5 (.take 7 (.take 8 (.take 9 (.take 11 (.take 12 (.take 13 (.take 14 (.one 3 (.one 6 (.one 10 (.one 15 (.one 16 (.one 17 (.one 18 (.one 19 (.take 20 .done))))))))))))))))))))) ae ae ae L (λ_ _ _ _ h=>h) ⟨RE,a2⟩ ?_;generalize D.drew=X at RE a2 E⊢;have Rl:ih (jf X X X):=O (jM _ _);iterate 2 refine aS ?_
  refine sH ?_;refine aS ?_;refine sH ?_;iterate 2 refine aS ?_
  refine sH ?_;iterate 2 refine aS ?_
  refine sH ?_
  (refine az (v:=?_) rfl ag (λt C=>?_) ?_;rotate_left;(have kc:=lW C.2;rw[pU]at kc;go_simp;with_reducible rfl);refine G ?_)
  refine ai rfl (λy f=>?_);go_simp;refine(iA x.node X).mono ?_;rintro e x1 ⟨rfl,d⟩;have TM:=Z RE d;have bc:=O (a2.below d);have QP:=ac Rl d;clear RE a2 Rl;clear d;refine f _ _ ⟨TM,bc⟩ λ_=>?_
  clear f;refine G ?_;refine ai rfl (λy f=>?_);go_simp;refine(iA x.lev x1).mono ?_;rintro e x2 ⟨rfl,d⟩;have QV:=Z TM d;have bd:=O (bc.below d);have Re:=ac QP d;clear TM bc QP;clear d;refine f _ _ ⟨QV,bd⟩ λ_=>?_
  clear f;refine G ?_;refine ai rfl (λy f=>?_);go_simp;refine(iA x.u x2).mono ?_;rintro e x3 ⟨rfl,d⟩;have TK:=Z QV d;have ZE:=O (bd.below d);have RF:=ac Re d;clear QV bd Re;clear d;refine f _ _ ⟨TK,ZE⟩ λ_=>?_
  clear f;refine G ?_;refine ai rfl (λy f=>?_);go_simp;refine(uP (ofB x.body) x3).mono ?_;rintro e x4 ⟨rfl,d⟩;have T1:=Z TK d;have bf:=O (ZE.below d);have TG:=ac RF d;clear TK ZE RF;clear d;refine f _ _ ⟨T1,bf⟩ λ_=>?_
  clear f;refine G ?_;refine ai rfl (λy f=>?_);go_simp;have d:=af x4 (ic #[I N 1,I N x.node,ja ⟨#[]⟩,T ii 0 0,I N 1,I N x.lev,ja ⟨#[]⟩,T ii 0 0,I N 1,I N x.u,ja ⟨#[]⟩,T ii 0 0,I N 2,I N 0,ja (ofB x.body),T ii 0 0] 118);have F:=ji x4 (ic #[I N 1,I N x.node,ja ⟨#[]⟩,T ii 0 0,I N 1,I N x.lev,ja ⟨#[]⟩,T ii 0 0,I N 1,I N x.u,ja ⟨#[]⟩,T ii 0 0,I N 2,I N 0,ja (ofB x.body),T ii 0 0] 118);obtain⟨x5,r⟩:=J (x4.alloc (ic #[I N 1,I N x.node,ja ⟨#[]⟩,T ii 0 0,I N 1,I N x.lev,ja ⟨#[]⟩,T ii 0 0,I N 1,I N x.u,ja ⟨#[]⟩,T ii 0 0,I N 2,I N 0,ja (ofB x.body),T ii 0 0] 118));have H:=iL x4 [I N 1,I N x.node,ja ⟨#[]⟩,T ii 0 0,I N 1,I N x.lev,ja ⟨#[]⟩,T ii 0 0,I N 1,I N x.u,ja ⟨#[]⟩,T ii 0 0,I N 2,I N 0,ja (ofB x.body),T ii 0 0] 118 4 4 X.heap.size TG.size rfl L;replace H:(x4.alloc (ic #[I N 1,I N x.node,ja ⟨#[]⟩,T ii 0 0,I N 1,I N x.lev,ja ⟨#[]⟩,T ii 0 0,I N 1,I N x.u,ja ⟨#[]⟩,T ii 0 0,I N 2,I N 0,ja (ofB x.body),T ii 0 0] 118)).ownsRow X.heap.size 118 4 (T (A ⟨x4,0,ii⟩) 4 4) 4 [I N 1,I N x.node,ja ⟨#[]⟩,T ii 0 0,I N 1,I N x.lev,ja ⟨#[]⟩,T ii 0 0,I N 1,I N x.u,ja ⟨#[]⟩,T ii 0 0,I N 2,I N 0,ja (ofB x.body),T ii 0 0]:=H;rw[<-r]at H;obtain⟨n,bn⟩:∃p:Option jI,p=A ⟨x4,0,ii⟩:=⟨_,rfl⟩;rw[<-bn]at H⊢;clear bn;rw[<-r]at d F⊢;have Tv:=Z T1 d;have bg:=O (bf.below d);have VI:=ac TG d;clear T1 bf TG;have bh:=O F;clear F r d;refine f _ _ ⟨Tv,bg⟩ λ_=>?_
  clear f;have TI:=O H;clear H bh;refine G ?_;refine ai rfl (λy f=>?_);go_simp;refine(lV n 4 4 x5).mono ?_;rintro e x6 ⟨rfl,d⟩;have Ys:=Z Tv d;have bk:=O (bg.below d);have ZB:=ac VI d;have bl:=aE TI d;clear Tv bg VI TI;clear d;refine f _ _ ⟨Ys,bk⟩ λ_=>?_
  clear f;refine G ?_;refine ai rfl (λy f=>?_);go_simp;have d:=af x6 (ic #[I N 3,I N 0,ja ⟨#[]⟩,T n 4 4] 118);have F:=ji x6 (ic #[I N 3,I N 0,ja ⟨#[]⟩,T n 4 4] 118);obtain⟨x7,r⟩:=J (x6.alloc (ic #[I N 3,I N 0,ja ⟨#[]⟩,T n 4 4] 118));have Su:bZ (x6.alloc (ic #[I N 3,I N 0,ja ⟨#[]⟩,T n 4 4] 118)) (T (A ⟨x6,0,ii⟩) 1 1) 4 1 [I N 3,I N 0,ja ⟨#[]⟩,T n 4 4]:=ey x6 [I N 3,I N 0,ja ⟨#[]⟩,T n 4 4] 118 (0,0) 4 1 1 rfl (jq _);rw[<-r]at Su;have Q6:=O Su;clear Su;rw[<-r]at d F⊢;have bh:=Z Ys d;have bA:=O (bk.below d);have Wq:=ac ZB d;have bs:=aE bl d;clear Ys bk ZB bl;have bB:=O F;clear F r d;refine f _ _ ⟨bh,bA⟩ λ_=>?_
  clear f;clear bB;refine G ?_;refine ai rfl (λy f=>?_);rw[if_pos ag];have QX:=O (E.later Wq);have Z5:ih (ao (λg=>W<=g/\g<x7.heap.size/\(jP pv i cv).ownBlock≠A g) x7 (Bx.val x) (T n 4 4)):=O (by
   unfold Bx.val;rw[vL,ao];refine⟨qA 4 bJ,ap.of_own bs (E.fresh Wq bs),?_⟩;exact ax.cons (dR _) (ax.cons (dR _) (ax.cons (dR _) (ax.cons (lJ _) (ax.nil)))))
  refine il _ _ rfl W (T pv i cv) _ _ rfl QX.own _ 1 _ rfl Q6 (by simp[jD]) (by rw[UQ];omega) QX.sz λv' wf HG=>?_
  have Qx:=HG.own;rw[UQ]at Qx;obtain⟨pn,cn,rfl⟩:=aO Qx;have Zh:=O (QX.push (x:=Bx.val x) Z5 HG);refine f _ _ ⟨eh bh HG.grown SX,((br.keep λg s=>(Zh.low.block g (jm s bo)).trans (S.block g s)).bytes)⟩ λ_=>?_
  clear f Qx HG QX Z5 Q6 bs Wq bh bA E;refine G ?_;refine aS ?_;refine jE ?_
  go_wp2_with fail
  refine⟨⟨i+1,_,_,rfl,by go_num,by omega,by rw[SF,j0];exact Zh⟩,?_⟩;simp only[jl];omega
 have hd:=ak ((i:Int)<(R:Int));have Q3:=ak (i<R);have ba:c.box.take i=c.box:=jW (by rw[<-Uh];omega);replace m:ih (Bls W W2 wr (c.box.map Bx.val) vr us):=O (by rw[<-ba];exact m);clear ba QE;obtain⟨Vt,Vr,Q⟩:=aO m.own;rw[jk,<-Uh]at Q;subst Q;have bs:=O m.fin;have Qp:ih (jf w w wr):=O (S.trans (m.low.mono bo));have bA:ih (b<wr.heap.size):=O (jm bw m.sz);have bB:ih (W<=wr.heap.size):=O m.sz;replace Zi:ih (ao (λg=>M<=g/\g<W) wr (vL (c.chg.map Chg.val)) (T Va K U9)):=O (ao.keep (λg s=>m.low.block g s.2) _ _ (by have h:=Zi.out;rw[<-Ru]at h;exact h))
 go_upto_region 13 with fail
 clear m Vd cL hi a4 hd Q3 aki S bv;rename je=>W3;rename ih (cI W3 b c q)=>akl;obtain⟨c0,c1,Ts,SG,Vq,Uk,Ul,Yb,Yd⟩:=eE c q u.plen u.clen;have Vd:=O Ul;obtain⟨ub,⟨Yc,p1,q1,ad,VH,bb,RO⟩,bm⟩:=u.wel;have bK:=O bm;clear bm;obtain⟨S,UP⟩:=J c.wel.length;rw[ad]at Vd;rw[<-UP]at Vd l4 VH;have YT:=O UP;have QW:=O RO;clear c0 c1 Ts SG Vq Uk Ul Yb Yd Yc ad bb UP RO;obtain⟨M3,Z3⟩:=J W3.heap.size;have Rp:ih (Bls M3 W3 (W3.alloc (ic #[] 118)) [] (T (A ⟨M3,0,ii⟩) 0 0) []):=O (by rw[Z3];exact Bls.start W3);have RP:=O Z3;have bv:ih (b<M3):=O (by rw[Z3];exact bA);have bm:ih (w.heap.size<=M3):=O (by rw[Z3];exact Qp.size);clear Z3
 go_wp2_with fail
 rw[<-RP]
 go_loopw [9,10] (λv3 v wr=>∃(i:Nat) (vr:jc) (us:List jc),vr=v3/\v=I N i/\i<=S/\ih (Bls M3 W3 wr ((c.wel.take i).map Wl.val) vr us)) (λ_ v _=>S-(jl v).toNat)
 case atStart=>exact⟨0,_,[],rfl,rfl,jH _,Rp⟩
 clear Rp;obtain⟨i,vr,us,rfl,rfl,hi,m⟩:=hrel;have a3:ih (cI wr b c q):=O (akl.keep (m.low.block b bv));have cL:=a3.get Vd
 by_cases a4:i<S
 ·have hd:=aj ((i:Int)<(S:Int))
  have Q3:=aj (i<S);obtain⟨g,o,rfl,al,a5⟩:=QW (aw YT);obtain⟨x,r,T8⟩:=m5 (l:=c.wel) (j:=i) (by rw[<-YT];exact a4);have R6:wr.heap[g]?=w.heap[g]?:=(m.low.block g (jm al bm)).trans (Qp.block g al);obtain⟨ux,Uv,Tb⟩:=bK.at (i:=i) (b:=x.body) (by rw[j5,r];rfl);obtain⟨z,B,rfl⟩:=Tb.form;have P:=λk hk=>(bE (a:=⟨g,o+(i*3+k),ii⟩) R6).trans (a5 (i*3+k) _ ((oA Wl.cells 3 (λ_ _=>rfl) c.wel ub i k x _ r Uv hk).trans (show(x.cells (T z x.body.length B))[k]?=A ((x.cells (T z x.body.length B)).getD k (I N 0)) by have:(x.cells (T z x.body.length B)).length=3:=rfl;simp[j1,jV (show k<(x.cells (T z x.body.length B)).length by omega)])))
  have d0:wr.cell? ⟨g,o+i*3,ii⟩=A (I N x.dev):=P 0 L;have d1:wr.cell? ⟨g,o+i*3+1,ii⟩=A (I N x.u):=P 1 L;have d2:wr.cell? ⟨g,o+i*3+2,ii⟩=A (T z x.body.length B):=P 2 L;clear Uv;have SF:=O T8;clear R6 P a5 r T8 al;obtain⟨pv,cv,Q⟩:=aO m.own;have au:((c.wel.take i).map Wl.val).length=i:=by rw[jk,jU,<-YT];omega
  rw[au]at Q;have UQ:=O au;subst Q;clear au
  go_upto_region 18 with fail
  obtain⟨bx,a1⟩:=J wr.heap.size;have aa:=ji wr (ic #[I N x.dev,I N x.u,T z x.body.length B] 76);have U:=af wr (ic #[I N x.dev,I N x.u,T z x.body.length B] 76);have SX:ih ((jP pv i cv).ownBlock≠A bx):=O (bW m.own (.inl (jz a1.symm)));rw[<-a1]at aa⊢;obtain⟨D,S2⟩:=J (wr.alloc (ic #[I N x.dev,I N x.u,T z x.body.length B] 76));rw[<-S2]at aa U⊢;have E:ih (Bls M3 W3 D ((c.wel.take i).map Wl.val) (T pv i cv) us):=O (m.later U);have HE:=O aa;clear aa U S2 a1 m a3 cL d0 d1 d2;have br:=O Tb;have RE:ih (D.drew.heap[bx]?=A (ic #[I N x.dev,I N x.u,T z x.body.length B] 76 (0,0))):=HE;have a2:ih (BytesAt D.drew (T z x.body.length B) x.body):=O ((Tb.keep λg s=>(E.low.block g (jm s bm)).trans (Qp.block g s)).bytes);replace E:=O (E.later (aP D));clear Tb HE;refine jF ?_;refine bi (λt=>t.heap[bx]?=A (ic #[I N x.dev,I N x.u,T z x.body.length B] 76 (0,0))/\BytesAt t (T z x.body.length B) x.body) (.take 0 (.take 1 (.take 2 (.take 4 (.take 5 (.take 6 (.take 8 (.take 9 (.take 10 (.take 11 (.one 3 (.one 7 (.one 12 (.one 13 (.one 14 (.one 15 (.one 16 (.take 17 .done)))))))))))))))))) ae ae ae L (λ_ _ _ _ h=>h) ⟨RE,a2⟩ ?_;generalize D.drew=X at RE a2 E⊢;have Rl:ih (jf X X X):=O (jM _ _);iterate 2 refine aS ?_
  refine wD ?_;iterate 2 refine aS ?_
  refine wD ?_;iterate 2 refine aS ?_
  refine wD ?_
  (refine az (v:=?_) rfl ag (λt C=>?_) ?_;rotate_left;(have kc:=lW C.2;rw[pU]at kc;go_simp;with_reducible rfl);refine G ?_)
  refine ai rfl (λy f=>?_);go_simp;refine(iA x.dev X).mono ?_;rintro e x1 ⟨rfl,d⟩;have TM:=Z RE d;have bc:=O (a2.below d);have QP:=ac Rl d;clear RE a2 Rl;clear d;refine f _ _ ⟨TM,bc⟩ λ_=>?_
  clear f;refine G ?_;refine ai rfl (λy f=>?_);go_simp;refine(iA x.u x1).mono ?_;rintro e x2 ⟨rfl,d⟩;have QV:=Z TM d;have bd:=O (bc.below d);have Re:=ac QP d;clear TM bc QP;clear d;refine f _ _ ⟨QV,bd⟩ λ_=>?_
  clear f;refine G ?_;refine ai rfl (λy f=>?_);go_simp;refine(uP (ofB x.body) x2).mono ?_;rintro e x3 ⟨rfl,d⟩;have TK:=Z QV d;have ZE:=O (bd.below d);have RF:=ac Re d;clear QV bd Re;clear d;refine f _ _ ⟨TK,ZE⟩ λ_=>?_
  clear f;refine G ?_;refine ai rfl (λy f=>?_);go_simp;have d:=af x3 (ic #[I N 1,I N x.dev,ja ⟨#[]⟩,T ii 0 0,I N 1,I N x.u,ja ⟨#[]⟩,T ii 0 0,I N 2,I N 0,ja (ofB x.body),T ii 0 0] 118);have F:=ji x3 (ic #[I N 1,I N x.dev,ja ⟨#[]⟩,T ii 0 0,I N 1,I N x.u,ja ⟨#[]⟩,T ii 0 0,I N 2,I N 0,ja (ofB x.body),T ii 0 0] 118);obtain⟨x4,r⟩:=J (x3.alloc (ic #[I N 1,I N x.dev,ja ⟨#[]⟩,T ii 0 0,I N 1,I N x.u,ja ⟨#[]⟩,T ii 0 0,I N 2,I N 0,ja (ofB x.body),T ii 0 0] 118));have H:=iL x3 [I N 1,I N x.dev,ja ⟨#[]⟩,T ii 0 0,I N 1,I N x.u,ja ⟨#[]⟩,T ii 0 0,I N 2,I N 0,ja (ofB x.body),T ii 0 0] 118 4 3 X.heap.size RF.size rfl L;replace H:(x3.alloc (ic #[I N 1,I N x.dev,ja ⟨#[]⟩,T ii 0 0,I N 1,I N x.u,ja ⟨#[]⟩,T ii 0 0,I N 2,I N 0,ja (ofB x.body),T ii 0 0] 118)).ownsRow X.heap.size 118 4 (T (A ⟨x3,0,ii⟩) 3 3) 3 [I N 1,I N x.dev,ja ⟨#[]⟩,T ii 0 0,I N 1,I N x.u,ja ⟨#[]⟩,T ii 0 0,I N 2,I N 0,ja (ofB x.body),T ii 0 0]:=H;rw[<-r]at H;obtain⟨n,bn⟩:∃p:Option jI,p=A ⟨x3,0,ii⟩:=⟨_,rfl⟩;rw[<-bn]at H⊢;clear bn;rw[<-r]at d F⊢;have T1:=Z TK d;have bf:=O (ZE.below d);have TG:=ac RF d;clear TK ZE RF;have U:=O F;clear F r d;refine f _ _ ⟨T1,bf⟩ λ_=>?_
  clear f;have P:=O H;clear H U;refine G ?_;refine ai rfl (λy f=>?_);go_simp;refine(lV n 3 3 x4).mono ?_;rintro e x5 ⟨rfl,d⟩;have Tv:=Z T1 d;have bg:=O (bf.below d);have VI:=ac TG d;have TI:=aE P d;clear T1 bf TG P;clear d;refine f _ _ ⟨Tv,bg⟩ λ_=>?_
  clear f;refine G ?_;refine ai rfl (λy f=>?_);go_simp;have d:=af x5 (ic #[I N 3,I N 0,ja ⟨#[]⟩,T n 3 3] 118);have F:=ji x5 (ic #[I N 3,I N 0,ja ⟨#[]⟩,T n 3 3] 118);obtain⟨x6,r⟩:=J (x5.alloc (ic #[I N 3,I N 0,ja ⟨#[]⟩,T n 3 3] 118));have Su:bZ (x5.alloc (ic #[I N 3,I N 0,ja ⟨#[]⟩,T n 3 3] 118)) (T (A ⟨x5,0,ii⟩) 1 1) 4 1 [I N 3,I N 0,ja ⟨#[]⟩,T n 3 3]:=ey x5 [I N 3,I N 0,ja ⟨#[]⟩,T n 3 3] 118 (0,0) 4 1 1 rfl (jq _);rw[<-r]at Su;have Q6:=O Su;clear Su;rw[<-r]at d F⊢;have Ys:=Z Tv d;have bk:=O (bg.below d);have ZB:=ac VI d;have bl:=aE TI d;clear Tv bg VI TI;have P:=O F;clear F r d;refine f _ _ ⟨Ys,bk⟩ λ_=>?_
  clear f;clear P;refine G ?_;refine ai rfl (λy f=>?_);rw[if_pos ag];have QX:=O (E.later ZB);have Z5:ih (ao (λg=>M3<=g/\g<x6.heap.size/\(jP pv i cv).ownBlock≠A g) x6 (Wl.val x) (T n 3 3)):=O (by
   unfold Wl.val;rw[vL,ao];refine⟨qA 3 bJ,ap.of_own bl (E.fresh ZB bl),?_⟩;exact ax.cons (dR _) (ax.cons (dR _) (ax.cons (lJ _) (ax.nil))))
  refine il _ _ rfl M3 (T pv i cv) _ _ rfl QX.own _ 1 _ rfl Q6 (by simp[jD]) (by rw[UQ];omega) QX.sz λv' wf HG=>?_
  have Qx:=HG.own;rw[UQ]at Qx;obtain⟨pn,cn,rfl⟩:=aO Qx;have Zh:=O (QX.push (x:=Wl.val x) Z5 HG);refine f _ _ ⟨eh Ys HG.grown SX,((br.keep λg s=>(Zh.low.block g (jm s bm)).trans (Qp.block g s)).bytes)⟩ λ_=>?_
  clear f Qx HG QX Z5 Q6 bl ZB Ys bk E;refine G ?_;refine aS ?_;refine jE ?_
  go_wp2_with fail
  refine⟨⟨i+1,_,_,rfl,by go_num,by omega,by rw[SF,j0];exact Zh⟩,?_⟩;simp only[jl];omega
 have hd:=ak ((i:Int)<(S:Int));have Q3:=ak (i<S);have ba:c.wel.take i=c.wel:=jW (by rw[<-YT];omega);replace m:ih (Bls M3 W3 wr (c.wel.map Wl.val) vr us):=O (by rw[<-ba];exact m);clear ba QW;obtain⟨k,p,Q⟩:=aO m.own;rw[jk,<-YT]at Q;subst Q;have U:=O m.fin;have x:ih (jf w w wr):=O (Qp.trans (m.low.mono bm));have bf:ih (b<wr.heap.size):=O (jm bv m.sz);have aa:ih (M3<=wr.heap.size):=O m.sz;replace Zi:ih (ao (λg=>M<=g/\g<W) wr (vL (c.chg.map Chg.val)) (T Va K U9)):=O (ao.keep (λg s=>m.low.block g (dS bB RP)) _ _ Zi.out);replace bs:ih (ao (λg=>W<=g/\g<M3) wr (vL (c.box.map Bx.val)) (T Vt R Vr)):=O (ao.keep (λg s=>m.low.block g s.2) _ _ (by have h:=bs.out;rw[<-RP]at h;exact h))
 go_upto_region 19 with fail
 clear m Vd cL hi a4 hd Q3 akl Qp bA;rename je=>W4;rename ih (cI W4 b c q)=>akp;obtain⟨c0,c1,Ts,SG,Vq,Uk,Ul,Yb,Yd⟩:=eE c q u.plen u.clen;have B:=O u.path;obtain⟨Yc,pp,qp,ad,VH,bb,RO⟩:=u.path;rw[ad]at Vq B;have al:ih (Qz[0]?=A (I N c.folder)):=O (by rw[Tr];simpa using c0);have Uy:ih (Qz[1]?=A (I N c.epoch)):=O (by rw[Tr];simpa using c1);have au:ih (Qz[34]?=A (I N c.author)):=O (by rw[Tr];simpa using Ts);have a1:ih (Qz[36]?=A (T pp c.path.length qp)):=O (by rw[Tr];simpa using Vq);have a2:ih (Qz[71]?=A (I N c.r)):=O (by rw[Tr];simpa using Yb);have a4:ih (Qz[72]?=A (I N c.s)):=O (by rw[Tr];simpa using Yd);have a5:ih ((jd.info? 23).map (·.size)=A (c.parent.map v8).length):=O (by rw[jk,u.plen];kernel_rfl);have ba:ih ((jd.info? 23).map (·.size)=A (c.confirm.map v8).length):=O (by rw[jk,u.clen];kernel_rfl);have bc:ih (∀t:je,t.heap[b]?=A (ic Qz 37 (0,0))->t.rangeAt b 2 (c.parent.map v8)):=O (λt C=>rc (o:=2) C (λj v z=>by
  have m:j<32:=by have:=(pa.1 z).1;rw[jk,u.plen]at this;exact this
  have h:=rY c q u.plen m;rw[Tr,qe,h,<-z,j5,jV (by rw[u.plen];exact m)];simp[v8,j1,u.plen,m]))
 have bd:ih (∀t:je,t.heap[b]?=A (ic Qz 37 (0,0))->t.rangeAt b 39 (c.confirm.map v8)):=O (λt C=>rc (o:=39) C (λj v z=>by
  have m:j<32:=by have:=(pa.1 z).1;rw[jk,u.clen]at this;exact this
  have h:=B5 c q u.plen u.clen m;rw[Tr,qe,h,<-z,j5,jV (by rw[u.clen];exact m)];simp[v8,j1,u.clen,m]))
 have RE:ih (W4.drew.heap[b]?=A (ic Qz 37 (0,0))):=O (by rw[Tr];exact akp.blk);have Rl:ih (jf W4 W4 W4.drew):=O (aP W4);clear c0 c1 Ts SG Vq Uk Ul Yb Yd Yc ad VH bb RO akp;refine jF ?_;refine bi (λt=>t.heap[b]?=A (ic Qz 37 (0,0))) (.take 0 (.take 1 (.take 3 (.take 4 (.take 6 (.take 7 (.take 9 (.take 10 (.take 12 (.take 14 (.take 15 (.take 17 (.take 19 (.take 21 (.take 22 (.take 24 (.take 25 (.take 26 (.take 28 (.take 29 (.take 30 (.one 2 (.one 5 (.one 8 (.one 11 (.one 13 (.one 16 (.one 18 (.one 20 (.one 23 (.one 27 (.one 31 (.one 32 (.take 33 .done)))))))))))))))))))))))))))))))))) ae ae ae L (λ_ _ _ _ h=>h) RE ?_;generalize W4.drew=X at RE Rl⊢;refine aS ?_
 (refine az (v:=?_) rfl ag (λt C=>?_) ?_;rotate_left;(have j:=cell_of C al;go_simp;with_reducible rfl);refine G ?_)
 refine aS ?_
 (refine az (v:=?_) rfl ag (λt C=>?_) ?_;rotate_left;(have j:=cell_of C Uy;go_simp;with_reducible rfl);refine G ?_)
 refine aS ?_
 (refine az (v:=jb (c.parent.map v8).toArray) rfl ag (λt C=>m9 qg rfl a5 rfl rfl (bc t C)) ?_;refine G ?_)
 refine aS ?_
 (refine az (v:=?_) rfl ag (λt C=>?_) ?_;rotate_left;(have j:=cell_of C au;go_simp;with_reducible rfl);refine G ?_)
 iterate 2 refine aS ?_
 (refine az (v:=?_) rfl ag (λt C=>?_) ?_;rotate_left;(have j:=cell_of C a1;go_simp;with_reducible rfl);refine G ?_)
 iterate 3 refine aS ?_
 (refine az (v:=jb (c.confirm.map v8).toArray) rfl ag (λt C=>m9 qg rfl ba rfl rfl (bd t C)) ?_;refine G ?_)
 iterate 2 refine aS ?_
 (refine az (v:=?_) rfl ag (λt C=>?_) ?_;rotate_left;(have j:=cell_of C a2;go_simp;with_reducible rfl);refine G ?_)
 iterate 2 refine aS ?_
 (refine az (v:=?_) rfl ag (λt C=>?_) ?_;rotate_left;(have j:=cell_of C a4;go_simp;with_reducible rfl);refine G ?_)
 refine ai rfl (λy f=>?_);go_simp;refine(iA c.folder X).mono ?_;rintro e x1 ⟨rfl,d⟩;have TM:=Z RE d;have QP:=ac Rl d;clear RE Rl;clear d;refine f _ _ TM.out λ_=>?_
 clear f;refine G ?_;refine ai rfl (λy f=>?_);go_simp;refine(iA c.epoch x1).mono ?_;rintro e x2 ⟨rfl,d⟩;have QV:=Z TM d;have Re:=ac QP d;clear TM QP;clear d;refine f _ _ QV.out λ_=>?_
 clear f;refine G ?_;refine ai rfl (λy f=>?_);go_simp;refine(EQ c.parent u.plen x2).mono ?_;rintro e x3 ⟨rfl,d⟩;have TK:=Z QV d;have RF:=ac Re d;clear QV Re;clear d;refine f _ _ TK.out λ_=>?_
 clear f;refine G ?_;refine ai rfl (λy f=>?_);go_simp;refine(iA c.author x3).mono ?_;rintro e x4 ⟨rfl,d⟩;have T1:=Z TK d;have TG:=ac RF d;clear TK RF;clear d;refine f _ _ T1.out λ_=>?_
 clear f;refine G ?_;refine ai rfl (λy f=>?_);go_simp;refine(lV Va K U9 x4).mono ?_;rintro e x5 ⟨rfl,d⟩;have Tv:=Z T1 d;have VI:=ac TG d;clear T1 TG;clear d;refine f _ _ Tv.out λ_=>?_
 clear f;refine G ?_;refine ai rfl (λy f=>?_);go_simp;refine(zo c.path _ x5 (ap.ints (B.keep λg s=>((x.trans (VI.mono x.size)).block g s))) Y).mono ?_;rintro e x6 ⟨up,rfl,j,d⟩;obtain⟨n,V,rfl⟩:=aO j;have m:ih (x6.ownsRow W4 118 4 (T n c.path.length V) c.path.length (dD c.path)):=O (k6 j VI.size);clear j;have Ys:=Z Tv d;have ZB:=ac VI d;clear Tv VI;clear d;refine f _ _ Ys.out λ_=>?_
 clear f;refine G ?_;refine ai rfl (λy f=>?_);go_simp;refine(lV Vt R Vr x6).mono ?_;rintro e x7 ⟨rfl,d⟩;have bh:=Z Ys d;have Wq:=ac ZB d;have o:=aE m d;clear Ys ZB m;clear d;refine f _ _ bh.out λ_=>?_
 clear f;refine G ?_;refine ai rfl (λy f=>?_);go_simp;refine(lV k S p x7).mono ?_;rintro e x8 ⟨rfl,d⟩;have j:=Z bh d;have t:=ac Wq d;have z:=aE o d;clear bh Wq o;clear d;refine f _ _ j.out λ_=>?_
 clear f;refine G ?_;refine ai rfl (λy f=>?_);go_simp;refine(EQ c.confirm u.clen x8).mono ?_;rintro e x9 ⟨rfl,d⟩;have m:=Z j d;have C:=ac t d;have D:=aE z d;clear j t z;clear d;refine f _ _ m.out λ_=>?_
 clear f;refine G ?_;refine ai rfl (λy f=>?_);go_simp;refine(iA c.r x9).mono ?_;rintro e Y5 ⟨rfl,d⟩;have o:=Z m d;have E:=ac C d;have P:=aE D d;clear m C D;clear d;refine f _ _ o.out λ_=>?_
 clear f;refine G ?_;refine ai rfl (λy f=>?_);go_simp;refine(iA c.s Y5).mono ?_;rintro e j ⟨rfl,d⟩;have t:=Z o d;have z:=ac E d;have C:=aE P d;clear o E P;clear d;refine f _ _ t.out λ_=>?_
 clear f;refine G ?_;refine ai rfl (λy f=>?_);go_simp;have d:=af j (ic #[I N 1,I N c.folder,ja ⟨#[]⟩,T ii 0 0,I N 1,I N c.epoch,ja ⟨#[]⟩,T ii 0 0,I N 2,I N 0,ja (ofB c.parent),T ii 0 0,I N 1,I N c.author,ja ⟨#[]⟩,T ii 0 0,I N 3,I N 0,ja ⟨#[]⟩,T Va K U9,I N 3,I N 0,ja ⟨#[]⟩,T n c.path.length V,I N 3,I N 0,ja ⟨#[]⟩,T Vt R Vr,I N 3,I N 0,ja ⟨#[]⟩,T k S p,I N 2,I N 0,ja (ofB c.confirm),T ii 0 0,I N 1,I N c.r,ja ⟨#[]⟩,T ii 0 0,I N 1,I N c.s,ja ⟨#[]⟩,T ii 0 0] 118);have F:=ji j (ic #[I N 1,I N c.folder,ja ⟨#[]⟩,T ii 0 0,I N 1,I N c.epoch,ja ⟨#[]⟩,T ii 0 0,I N 2,I N 0,ja (ofB c.parent),T ii 0 0,I N 1,I N c.author,ja ⟨#[]⟩,T ii 0 0,I N 3,I N 0,ja ⟨#[]⟩,T Va K U9,I N 3,I N 0,ja ⟨#[]⟩,T n c.path.length V,I N 3,I N 0,ja ⟨#[]⟩,T Vt R Vr,I N 3,I N 0,ja ⟨#[]⟩,T k S p,I N 2,I N 0,ja (ofB c.confirm),T ii 0 0,I N 1,I N c.r,ja ⟨#[]⟩,T ii 0 0,I N 1,I N c.s,ja ⟨#[]⟩,T ii 0 0] 118);obtain⟨m,r⟩:=J (j.alloc (ic #[I N 1,I N c.folder,ja ⟨#[]⟩,T ii 0 0,I N 1,I N c.epoch,ja ⟨#[]⟩,T ii 0 0,I N 2,I N 0,ja (ofB c.parent),T ii 0 0,I N 1,I N c.author,ja ⟨#[]⟩,T ii 0 0,I N 3,I N 0,ja ⟨#[]⟩,T Va K U9,I N 3,I N 0,ja ⟨#[]⟩,T n c.path.length V,I N 3,I N 0,ja ⟨#[]⟩,T Vt R Vr,I N 3,I N 0,ja ⟨#[]⟩,T k S p,I N 2,I N 0,ja (ofB c.confirm),T ii 0 0,I N 1,I N c.r,ja ⟨#[]⟩,T ii 0 0,I N 1,I N c.s,ja ⟨#[]⟩,T ii 0 0] 118));have H:=iL j [I N 1,I N c.folder,ja ⟨#[]⟩,T ii 0 0,I N 1,I N c.epoch,ja ⟨#[]⟩,T ii 0 0,I N 2,I N 0,ja (ofB c.parent),T ii 0 0,I N 1,I N c.author,ja ⟨#[]⟩,T ii 0 0,I N 3,I N 0,ja ⟨#[]⟩,T Va K U9,I N 3,I N 0,ja ⟨#[]⟩,T n c.path.length V,I N 3,I N 0,ja ⟨#[]⟩,T Vt R Vr,I N 3,I N 0,ja ⟨#[]⟩,T k S p,I N 2,I N 0,ja (ofB c.confirm),T ii 0 0,I N 1,I N c.r,ja ⟨#[]⟩,T ii 0 0,I N 1,I N c.s,ja ⟨#[]⟩,T ii 0 0] 118 4 11 w.heap.size (jw x.size z.size) rfl L;replace H:(j.alloc (ic #[I N 1,I N c.folder,ja ⟨#[]⟩,T ii 0 0,I N 1,I N c.epoch,ja ⟨#[]⟩,T ii 0 0,I N 2,I N 0,ja (ofB c.parent),T ii 0 0,I N 1,I N c.author,ja ⟨#[]⟩,T ii 0 0,I N 3,I N 0,ja ⟨#[]⟩,T Va K U9,I N 3,I N 0,ja ⟨#[]⟩,T n c.path.length V,I N 3,I N 0,ja ⟨#[]⟩,T Vt R Vr,I N 3,I N 0,ja ⟨#[]⟩,T k S p,I N 2,I N 0,ja (ofB c.confirm),T ii 0 0,I N 1,I N c.r,ja ⟨#[]⟩,T ii 0 0,I N 1,I N c.s,ja ⟨#[]⟩,T ii 0 0] 118)).ownsRow w.heap.size 118 4 (T (A ⟨j,0,ii⟩) 11 11) 11 [I N 1,I N c.folder,ja ⟨#[]⟩,T ii 0 0,I N 1,I N c.epoch,ja ⟨#[]⟩,T ii 0 0,I N 2,I N 0,ja (ofB c.parent),T ii 0 0,I N 1,I N c.author,ja ⟨#[]⟩,T ii 0 0,I N 3,I N 0,ja ⟨#[]⟩,T Va K U9,I N 3,I N 0,ja ⟨#[]⟩,T n c.path.length V,I N 3,I N 0,ja ⟨#[]⟩,T Vt R Vr,I N 3,I N 0,ja ⟨#[]⟩,T k S p,I N 2,I N 0,ja (ofB c.confirm),T ii 0 0,I N 1,I N c.r,ja ⟨#[]⟩,T ii 0 0,I N 1,I N c.s,ja ⟨#[]⟩,T ii 0 0]:=H;rw[<-r]at H;have D:=O H;clear H;rw[<-r]at d F⊢;have E:=Z t d;have o:=ac z d;have y:=aE C d;clear t z C;have C:=O F;clear F r d;refine f _ _ E.out λ_=>?_
 clear f;refine G ?_;refine aS ?_;refine jE ?_
 go_wp2_with fail
 go_ret;have d:∀g,(M<=g/\g<W4.heap.size)->(w.heap.size<=g/\g<m.heap.size):=λg s=>⟨jw bq s.1,jm s.2 o.size⟩
 have f:∀g,(M<=g/\g<W4.heap.size)->m.heap[g]?=W4.heap[g]?:=λg s=>o.block g s.2
 have F:M<=W:=by have:=bC.out;have:=Ru.out;omega
 have H:W<=M3:=by have:=bB.out;have:=RP.out;omega
 have P:M3<=W4.heap.size:=aa.out;have r:ao (λg=>w.heap.size<=g/\g<m.heap.size) m (vL (c.path.map vI)) (T n c.path.length V):=lX y (λg s=>by
  have h:=y.lt g s;exact⟨jw x.size h.1,h.2⟩)
 have h:ao (λg=>M<=g/\g<W4.heap.size) W4 (vL (c.chg.map Chg.val)) (T Va K U9):=ao.mono (λg s=>⟨s.1,by omega⟩) _ _ Zi.out;have t:ao (λg=>M<=g/\g<W4.heap.size) W4 (vL (c.box.map Bx.val)) (T Vt R Vr):=ao.mono (λg s=>⟨by omega,by omega⟩) _ _ bs.out;have z:ao (λg=>M<=g/\g<W4.heap.size) W4 (vL (c.wel.map Wl.val)) (T k S p):=ao.mono (λg s=>⟨by omega,s.2⟩) _ _ U.out;refine⟨_,rfl,⟨[bJ,bJ,bJ,bJ,T Va K U9,T n c.path.length V,T Vt R Vr,T k S p,bJ,bJ,bJ],D,?_⟩,x.trans (o.mono x.size)⟩;exact ax.cons (dR _) (ax.cons (dR _) (ax.cons (lJ _) (ax.cons (dR _) (ax.cons (ao.mono d _ _ (ao.keep f _ _ h)) (ax.cons r (ax.cons (ao.mono d _ _ (ao.keep f _ _ t)) (ax.cons (ao.mono d _ _ (ao.keep f _ _ z)) (ax.cons (lJ _) (ax.cons (dR _) (ax.cons (dR _) ax.nil))))))))))
theorem baI{a b:ByteArray}(h:a.toList=b.toList):a=b:=by
 rw[ByteArray.toList_eq,ByteArray.toList_eq]at h;exact ByteArray.ext (Array.toList_inj.1 h)
noncomputable def ik(x y:Val):Bool:=by classical exact decide (x=y)
theorem yY{x y:Val}(h:x=y):ik x y=true:=by unfold ik;simp[h]
theorem nC{x y:Val}(h:x≠y):ik x y=false:=by unfold ik;simp[h]
def wJ(x:Val):Prop:=∀(y:Val) (a v:jc) (w:je),ao (·<w.heap.size) w x a->ao (·<w.heap.size) w y v->
 jj jd 65 #[jb #[I N x.k,I N x.n,ja x.s,a],jb #[I N y.k,I N y.n,ja y.s,v]] w λe w'=>e=jh (.bool (ik x y))/\jf w w w'
theorem rj(j n:Int)(xs:ByteArray)(l:List Val)(i:∀z∈l,wJ z)(hn:l.length<=3000000):wJ (.mk j n xs l):=by
 rintro⟨s,u,C,m⟩ F v w z D;show jj jd 65 #[jb #[I N j,I N n,ja xs,F],jb #[I N s,I N u,ja C,v]] w _;obtain⟨us,a1,a⟩:=z.slice;obtain⟨vs,a2,b⟩:=D.slice;replace a1:ap (·<w.heap.size) w F 4 l.length (aX l us):=a1;replace a:ax (·<w.heap.size) w l us:=a;replace a2:ap (·<w.heap.size) w v 4 m.length (aX m vs):=a2;replace b:ax (·<w.heap.size) w m vs:=b;obtain⟨-,H,K,rfl,bh,-,f⟩:=a1;obtain⟨-,pv,cv,rfl,bk,-,g⟩:=a2;obtain⟨d,c⟩:=J l.length;obtain⟨M,e⟩:=J m.length;obtain⟨P,h⟩:=J (ik (.mk j n xs l) (.mk s u C m));rw[<-h,<-c,<-e];rw[<-c]at hn bh f;rw[<-e]at bk g;have bl:=O a;have bm:=O b;have bn:=O f;have bo:=O g;have HN:=O c;have HM:=O e;have R2:=O i;have Q:=O h;clear a b f g c e i z D h;have g:=af w (ic #[I N j,I N n,ja xs,T H d K] 118);have a:=ji w (ic #[I N j,I N n,ja xs,T H d K] 118);have h:=af (w.alloc (ic #[I N j,I N n,ja xs,T H d K] 118)) (ic #[I N s,I N u,ja C,T pv M cv] 118);have b:=ji (w.alloc (ic #[I N j,I N n,ja xs,T H d K] 118)) (ic #[I N s,I N u,ja C,T pv M cv] 118);rw[js]at b;replace a:=av a h;obtain⟨E,k⟩:=J w.heap.size;have o:=g.trans (h.mono g.size);obtain⟨c,e⟩:=J ((w.alloc (ic #[I N j,I N n,ja xs,T H d K] 118)).alloc (ic #[I N s,I N u,ja C,T pv M cv] 118));rw[<-e,<-k]at a b;rw[<-e]at o;have HX:=O a;have HY:=O b;have f:=O o;have V:=O k;have p:=O e;have a0:=cell_of (i:=0) a rfl;have bq:=cell_of (i:=1) a rfl;have br:=cell_of (i:=2) a rfl;have a4:=cell_of (i:=3) a rfl;have b0:=cell_of (i:=0) b rfl;have b1:=cell_of (i:=1) b rfl;have b2:=cell_of (i:=2) b rfl;have b3:=cell_of (i:=3) b rfl;clear g h a b o k e
 by_cases hk:j=s
 ·subst hk
  by_cases hm:n=u
  ·subst hm
   by_cases hs:xs=C
   ·subst hs
    by_cases a5:d=M
    ·subst a5
     have Sc:ih (c.cell? ⟨E,3,ii⟩=A (T H d K)):=O a4;have ZE:ih (c.cell? ⟨E+1,3,ii⟩=A (T pv d cv)):=O b3;have a3:ih (E+1<c.heap.size/\E<c.heap.size):=O ⟨(jC.1 HY).1,(jC.1 HX).1⟩
     go_enter func65,kw
     go_upto_region 1 with fail
     rw[<-p,<-V];clear p
     go_wp2_with fail
     clear a0 bq br a4 b0 b1 b2 b3 HX HY
     go_loopw [5] (λa wr=>∃i:Nat,a=I N i/\i<=d/\ih (l.take i=m.take i)/\ih (jf c c wr)) (λa _=>d-(jl a).toNat)
     case atStart=>exact⟨0,rfl,jH _,O rfl,O (jM _ _)⟩
     obtain⟨i,rfl,hi,HT,al⟩:=hrel;have cA:=(bE (w':=wr) (al.block E a3.2)).trans Sc
     by_cases au:i<d
     ·have hd:=aj ((i:Int)<(d:Int))
      have Q3:=aj (i<d);obtain⟨g,o,rfl,X,k⟩:=bn Y;obtain⟨r,o2,rfl,aa,U⟩:=bo Y;obtain⟨x,z⟩:∃x,l[i]?=A x:=⟨l[i]'(by rw[<-HN];exact au),jV (by rw[<-HN];exact au)⟩;obtain⟨y,D⟩:∃x,m[i]?=A x:=⟨m[i]'(by rw[<-HM];exact au),jV (by rw[<-HM];exact au)⟩;obtain⟨R,Uv,ba⟩:=bl.at z;obtain⟨S,bb,bc⟩:=bm.at D;have ad:=λq hq=>oz l us i q x R z Uv hq
      have ZX:=λq hq=>oz m vs i q y S D bb hq
      have e:∀a F,a.block<w.heap.size->w.cell? a=A F->c.cell? a=A F:=λa F ha hu=>(bE (f.block _ ha)).trans hu
      have D0:ih (c.cell? ⟨g,o+i*4,ii⟩=A (I N x.k)):=O (e _ _ X (k (i*4+0) _ (ad 0 L)));have D1:ih (c.cell? ⟨g,o+i*4+1,ii⟩=A (I N x.n)):=O (e _ _ X (k (i*4+1) _ (ad 1 L)));have D2:ih (c.cell? ⟨g,o+i*4+2,ii⟩=A (ja x.s)):=O (e _ _ X (k (i*4+2) _ (ad 2 L)));have D3:ih (c.cell? ⟨g,o+i*4+3,ii⟩=A R):=O (e _ _ X (k (i*4+3) _ (ad 3 L)));have E0:ih (c.cell? ⟨r,o2+i*4,ii⟩=A (I N y.k)):=O (e _ _ aa (U (i*4+0) _ (ZX 0 L)));have E1:ih (c.cell? ⟨r,o2+i*4+1,ii⟩=A (I N y.n)):=O (e _ _ aa (U (i*4+1) _ (ZX 1 L)));have E2:ih (c.cell? ⟨r,o2+i*4+2,ii⟩=A (ja y.s)):=O (e _ _ aa (U (i*4+2) _ (ZX 2 L)));have E3:ih (c.cell? ⟨r,o2+i*4+3,ii⟩=A S):=O (e _ _ aa (U (i*4+3) _ (ZX 3 L)));have HF:=O (R2 x (nn z));have B:ih (g<c.heap.size/\r<c.heap.size):=O ⟨jm X f.size,jm aa f.size⟩;have bd:ih (∀W:je,jf c c W->ao (·<W.heap.size) W x R/\ao (·<W.heap.size) W y S):=O (λW t=>
       ⟨ao.mono (D':=(·<W.heap.size)) (λb (h:b<w.heap.size)=>jm h (jw f.size t.size)) x R (ao.keep (λb (h:b<w.heap.size)=>(t.block b (jm h f.size)).trans (f.block b h)) x R ba),
        ao.mono (D':=(·<W.heap.size)) (λb (h:b<w.heap.size)=>jm h (jw f.size t.size)) y S (ao.keep (λb (h:b<w.heap.size)=>(t.block b (jm h f.size)).trans (f.block b h)) y S bc)⟩)
      have bf:=O z;have bg:=O D;have t:ih (jf c c wr.drew):=O (al.trans ((aP wr).mono al.size));clear z D Uv bb ba bc ad ZX e k U
      go_upto_region 6 with fail
      refine jF ?_;refine bi (λe=>jf c c e) (.take 0 (.take 1 (.take 2 (.take 3 (.take 4 (.take 5 (.take 6 (.take 7 (.take 8 (.take 9 (.one 10 (.take 11 .done)))))))))))) ae ae ae L (λ_ _ _ _ h=>h) t ?_;generalize wr.drew=x0 at t⊢;refine aS ?_
      (refine az (v:=?_) rfl ag (λe b=>?_) ?_;rotate_left;(have k:=(bE (b.block E a3.2)).trans Sc;go_simp;with_reducible rfl);refine G ?_)
      iterate 2 refine aS ?_
      (refine az (v:=?_) rfl ag (λe b=>?_) ?_;rotate_left;(have U:=(bE (b.block g B.1)).trans D0;have W:=(bE (b.block g B.1)).trans D1;have k2:=(bE (b.block g B.1)).trans D2;have k3:=(bE (b.block g B.1)).trans D3;go_simp;with_reducible rfl);refine G ?_)
      refine aS ?_
      (refine az (v:=?_) rfl ag (λe b=>?_) ?_;rotate_left;(have k:=(bE (b.block (E+1) a3.1)).trans ZE;go_simp;with_reducible rfl);refine G ?_)
      iterate 2 refine aS ?_
      (refine az (v:=?_) rfl ag (λe b=>?_) ?_;rotate_left;(have U:=(bE (b.block r B.2)).trans E0;have W:=(bE (b.block r B.2)).trans E1;have k2:=(bE (b.block r B.2)).trans E2;have k3:=(bE (b.block r B.2)).trans E3;go_simp;with_reducible rfl);refine G ?_)
      refine ai rfl (λe b=>?_);go_simp;refine(HF y R S x0 (bd x0 t).1 (bd x0 t).2).mono ?_;rintro e x1 ⟨rfl,k⟩;have Q5:=ac t k;refine b _ _ Q5.out λ_=>?_
      clear b k t;refine G ?_;refine aS ?_;refine jE ?_;obtain⟨t,b⟩:=J (ik x y);rw[<-b]
      cases t with
      |true=>
       have k:x=y:=by
        by_cases h:x=y
        ·exact h
        rw[nC h]at b;cases b
       have U:ih (l.take (i+1)=m.take (i+1)):=O (by
        rw[qB,qB,HT,bf,bg,k])
       clear b k
       go_wp2_with fail
       refine⟨⟨i+1,by go_num,by omega,U,Q5⟩,?_⟩;simp only[jl];omega
      |false=>
       have k:P=false:=by
        rw[Q];refine nC (λh=>?_);injection h with W h2 h3 U
        have e:=bf.out;rw[U,bg]at e;injection e with e
        rw[yY e.symm]at b
        cases b
       clear b
       go_wp2_with fail
       go_ret;exact⟨rfl,f.trans (Q5.mono f.size)⟩
     have hd:=ak ((i:Int)<(d:Int));have Q3:=ak (i<d);have k:P=true:=by
      rw[Q];have h:=HT.out;rw[jW (by rw[<-HN];omega),jW (by rw[<-HM];omega)]at h;exact yY (by rw[h])
     go_wp2_with fail
     go_ret;exact⟨(by first|rfl|(rw[k];rfl)),f.trans (al.mono f.size)⟩
    have k:P=false:=by
     rw[Q];exact nC (λh=>by injection h with W h2 h3 U;exact a5 (by rw[HN,HM,U]))
    have a:((d:Int)==(M:Int))=false:=by simp;omega
    have b:((d:Int)!=(M:Int))=true:=by simp;omega
    go_enter func65,kw
    go_upto_region 1 with fail
    rw[<-p,<-V];clear p
    go_wp2_with fail
    go_ret;exact⟨rfl,f⟩
   have k:P=false:=by
    rw[Q];exact nC (λh=>by injection h with W h2 h3 U;exact hs h3)
   have a:¬xs.toList=C.toList:=λh=>hs (baI h)
   go_enter func65,kw
   go_upto_region 1 with fail
   rw[<-p,<-V];clear p
   go_wp2_with fail
   go_ret;exact⟨rfl,f⟩
  have k:P=false:=by
   rw[Q];exact nC (λh=>by injection h with W h2 h3 U;exact hm h2)
  have a:(n==u)=false:=by simpa using hm
  have b:(n !=u)=true:=by simpa using hm
  go_enter func65,kw
  go_upto_region 1 with fail
  rw[<-p,<-V];clear p
  go_wp2_with fail
  go_ret;exact⟨rfl,f⟩
 have k:P=false:=by
  rw[Q];exact nC (λh=>by injection h with W h2 h3 U;exact hk W)
 have a:(j==s)=false:=by simpa using hk
 have b:(j !=s)=true:=by simpa using hk
 go_enter func65,kw
 go_upto_region 1 with fail
 rw[<-p,<-V];clear p
 go_wp2_with fail
 go_ret;exact⟨rfl,f⟩
theorem PS:∀(f:Nat) (x:Val),wfV f x->(enc x).length<=3000000->wJ x:=by
 intro f
 induction f with
 |zero=>
  rintro⟨k,n,s,l⟩ h b;rw[wfV]at h
  rcases h with⟨-,-,-,-,rfl⟩|⟨-,-,-,rfl⟩|⟨-,-,-,-,h⟩
  ·exact rj _ _ _ _ (λz a=>by cases a) L
  ·exact rj _ _ _ _ (λz a=>by cases a) L
  exact h.elim
 |succ f c=>
  rintro⟨k,n,s,l⟩ h b;rw[wfV]at h
  rcases h with⟨-,-,-,-,rfl⟩|⟨-,-,-,rfl⟩|⟨rfl,rfl,rfl,-,h⟩
  ·exact rj _ _ _ _ (λz a=>by cases a) L
  ·exact rj _ _ _ _ (λz a=>by cases a) L
  have e:(enc (.mk 3 0 emS l)).length=(aZ l.length).length+(encs l).length+1:=by
   rw[enc,if_neg L,if_neg L,lr,jG]
  have j:=oe l;refine rj _ _ _ _ (λx a=>c x (h x a) ?_) Y;have:(enc x).length<=(encs l).length:=by
   obtain⟨i,d⟩:=List.getElem?_of_mem a;have g:=rm l (i+1);rw[rb d,jG]at g;omega
  omega
theorem iq.valV{w w':je}{c:Cmt}{v:jc}(h:iq w w' c v):ao (λg=>w.heap.size<=g/\g<w'.heap.size) w' (vL (aB c)) v:=by
 obtain⟨b,a,hk⟩:=h;rw[vL,ao];exact⟨b,ap.of_own a (λg d=>a.lt g d),hk⟩
theorem iq.sliceV{w w':je}{c:Cmt}{v:jc}(h:iq w w' c v):∃p k,v=T p 11 k:=by
 obtain⟨b,a,-⟩:=h;exact aO a
theorem KV(c d:Cmt)(q r:CQ)(w:je)(f:ay (·<w.heap.size) w c q)(g:ay (·<w.heap.size) w d r)(a:dC (aB c))(V:d.chg.length<=1000000)(l2:d.path.length<=1000000)(l3:d.box.length<=1000000)(l4:d.wel.length<=1000000):
 jj jd 17 #[jb (ah c q).toArray,jb (ah d r).toArray] w λe w'=>e=jh (.bool (ik (vL (aB c)) (vL (aB d))))/\jf w w w':=by
 have z:=PS 16 (vL (aB c)) a.wf (jw a.len L);have x:ih (∀(y:Val) (b v:jc) (w:je),ao (·<w.heap.size) w (vL (aB c)) b->ao (·<w.heap.size) w y v->
  jj jd 65 #[jb #[I N 3,I N 0,ja ⟨#[]⟩,b],jb #[I N y.k,I N y.n,ja y.s,v]] w λe w'=>e=jh (.bool (ik (vL (aB c)) y))/\jf w w w'):=O z
 replace x:ih (∀(b v:jc) (w:je),ao (·<w.heap.size) w (vL (aB c)) b->ao (·<w.heap.size) w (vL (aB d)) v->
  jj jd 65 #[jb #[I N 3,I N 0,ja ⟨#[]⟩,b],jb #[I N 3,I N 0,ja ⟨#[]⟩,v]] w λe w'=>e=jh (.bool (ik (vL (aB c)) (vL (aB d))))/\jf w w w'):=O (λb v w h j=>x (vL (aB d)) b v w h j)
 have M:ih (∀W:je,jf w w W->jj jd 64 #[jb (ah c q).toArray] W λe w'=>∃v,e=jh v/\iq W w' c v/\jf W W w'):=O (λW b=>Cc c q W (f.below b) a.lens.1 a.lens.2.1 a.lens.2.2.1 a.lens.2.2.2);have P:ih (∀W:je,jf w w W->jj jd 64 #[jb (ah d r).toArray] W λe w'=>∃v,e=jh v/\iq W w' d v/\jf W W w'):=O (λW b=>Cc d r W (g.below b) V l2 l3 l4);have k:(jd.info? 37).map (·.size)=A (ah c q).toArray.size:=by rw[jp,dT c q f.plen f.clen];exact fa
 have o:(jd.info? 37).map (·.size)=A (ah d r).toArray.size:=by rw[jp,dT d r g.plen g.clen];exact fa
 obtain⟨l,C⟩:=J ((ah c q).toArray);obtain⟨m,E⟩:=J ((ah d r).toArray);obtain⟨Uz,F⟩:=J (ik (vL (aB c)) (vL (aB d)));rw[<-C]at M k⊢;rw[<-E]at P o⊢;rw[<-F]at x⊢;have W:=O k;have aa:=O o;have s:=af w (ic l 37);have b:=ji w (ic l 37);have t:=af (w.alloc (ic l 37)) (ic m 37);have h:=ji (w.alloc (ic l 37)) (ic m 37);rw[js]at h;replace b:=av b t;obtain⟨B,u⟩:=J w.heap.size;have y:=s.trans (t.mono s.size);obtain⟨n,j⟩:=J ((w.alloc (ic l 37)).alloc (ic m 37));rw[<-j,<-u]at b h;rw[<-j]at y;have H:=O b;have K:=O h;have p:=O y;have HA:=O u;have Q:=O j;clear s t b h y u j z f g a k o C E F
 go_enter func17,ntmps17
 go_upto_region 1 with fail
 rw[<-Q,<-HA];clear Q
 go_wp2_with (refine jS rfl 37 _ rfl B rfl 37 l (0,0) _ H.out jr rfl W ?_)
 refine(M n p).mono ?_;rintro e C ⟨vc,rfl,b,a⟩;have f:=O b.valV;obtain⟨j,k,rfl⟩:=b.sliceV;have h:=Z K a;have t:=O (Below.trans (jM _ _) a);clear b a H K
 go_wp2_with fail
 refine(lV j 11 k C).mono ?_;rintro e o ⟨rfl,a⟩;have Q:=O (ao.keep (λg b=>a.block g b.2) _ _ f.out);have R:=Z h a;have s:=ac t a;have E:=O a.size;clear a f h t;have h:=af o (ic #[I N 3,I N 0,ja ⟨#[]⟩,T j 11 k] 118);have y:=ji o (ic #[I N 3,I N 0,ja ⟨#[]⟩,T j 11 k] 118);obtain⟨X,F⟩:=J o.heap.size;rw[<-F]at y;obtain⟨f,H⟩:=J (o.alloc (ic #[I N 3,I N 0,ja ⟨#[]⟩,T j 11 k] 118));rw[<-H]at y h;have S:=O F;have U:=O H;have z:jf o o f.drew:=h.trans ((aP f).mono h.size);have t:ih (f.drew.heap[X]?=A (ic #[I N 3,I N 0,ja ⟨#[]⟩,T j 11 k] 118 (0,0))/\f.drew.heap[B+1]?=A (ic m 37 (0,0))):=O ⟨y,av R z⟩;have u:ih (jf n n f.drew):=O ((s.trans (h.mono s.size)).trans ((aP f).mono (s.trans (h.mono s.size)).size));have K:ih (ao (λg=>n.heap.size<=g/\g<f.drew.heap.size) f.drew (vL (aB c)) (T j 11 k)):=O (ao.mono (D:=λg=>n.heap.size<=g/\g<C.heap.size) (λg b=>⟨b.1,jm b.2 (jw E z.size)⟩) _ _ (ao.keep (λg (b:n.heap.size<=g/\g<C.heap.size)=>z.block g (jm b.2 E)) _ _ Q.out));clear z h y F H Q R s E
 go_upto_region 2 with fail
 rw[<-U,<-S];clear U S;refine jF ?_;refine bi (λs=>s.heap[X]?=A (ic #[I N 3,I N 0,ja ⟨#[]⟩,T j 11 k] 118 (0,0))/\s.heap[B+1]?=A (ic m 37 (0,0))) (.take 0 (.take 1 (.one 2 (.one 3 (.one 4 (.take 5 .done)))))) ae ae ae L (λ_ _ _ _ h=>h) t ?_;generalize f.drew=U at t K u⊢
 (refine az (v:=?_) rfl ag (λs h=>?_) ?_;rotate_left;(have y:=cell_of (i:=0) h.1 rfl;have z:=cell_of (i:=1) h.1 rfl;have E:=cell_of (i:=2) h.1 rfl;have F:=cell_of (i:=3) h.1 rfl;go_simp;with_reducible rfl);refine G ?_)
 (refine az (v:=jb m) rfl ag (λs h=>aY jr rfl aa rfl rfl h.2) ?_;refine G ?_)
 refine ai rfl (λz h=>?_);go_simp;refine(P U (p.trans (u.mono p.size))).mono ?_;rintro e x1 ⟨vd,rfl,s,a⟩;have E:=u.trans (a.mono u.size);have F:=O s.valV;have H:=O (ao.keep (λg b=>a.block g b.2) _ _ K.out);obtain⟨pd,cd,rfl⟩:=s.sliceV;have Q:=O E;have R:=O a.size;refine h _ _ ⟨av t.1 a,av t.2 a⟩ λS=>?_
 have y:=O S;clear h a E s t K u S;refine G ?_;refine ai rfl (λz h=>?_);go_simp;refine(lV pd 11 cd x1).mono ?_;rintro e x2 ⟨rfl,a⟩;have t:=ac Q a;have u:=O (ao.keep (λg b=>a.block g (jm b.2 R)) _ _ H.out);have E:=O (ao.keep (λg b=>a.block g b.2) _ _ F.out);have K:=O a.size;refine h _ _ ⟨av y.1 a,av y.2 a⟩ λS=>?_
 have s:=O S;clear h a y S Q H F;refine G ?_;refine ai rfl (λz h=>?_);go_simp;refine(x _ _ x2 (ao.mono (λg b=>jm b.2 (jw R K)) _ _ u.out) (ao.mono (λg b=>jm b.2 K) _ _ E.out)).mono ?_;rintro e g ⟨rfl,a⟩;have b:=ac t a;refine h _ _ ⟨av s.1 a,av s.2 a⟩ λ_=>?_
 clear h a s t u E;refine G ?_;refine aS ?_;refine jE ?_
 go_wp2_with fail
 go_ret;exact⟨rfl,p.trans (b.mono p.size)⟩
end Go.Proofs.YthpmekcffpppkaaGreatDoor
