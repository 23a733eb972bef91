/- Texts of the proof, part 6 of 8 (Ic Ja Nc Nb Hc Na Hd Qa Qb Qc Qd Id Ie If Jb Jd). -/
import Derived.Defers
import Derived.Recover
import Derived.Test.YtpfafeammikibaaGreatDoorZB1
import Derived.Test.YtpfafeammikibaaGreatDoorZB2
import Derived.Test.YtpfafeammikibaaGreatDoorZB3
import Derived.Test.YtpfafeammikibaaGreatDoorZB4
import Derived.Test.YtpfafeammikibaaGreatDoorZB5
namespace Go.Proofs.YtpfafeammikibaaGreatDoor
set_option maxHeartbeats 64000000
set_option maxRecDepth 100000
set_option linter.unusedVariables false
set_option linter.unusedSimpArgs false
open Go.RowKit
open Go.Proofs.Tryz
open Go.Value renaming int->I
open Go.IntKind renaming i64->N
open Go.Value renaming slice->T,string->hQ,agg->ic,pointer->ji,tuple->jB
open _root_.Option renaming some->A,none->hF,bind_some->jp,map_some->jR
open Go.RowKit renaming Hid->hH,Below->ii
open Go.Obj renaming cells->hK
open Go renaming Value->hU,World->hZ,Calls->jb,setRow_other->jh,wp_store_row->jj,TypeId->jq,wpList_plain->js,wp_region_noPanic->ju,Addr->jw,wpList_load_row->jy,bodyPost_ret_by->jE,wp_region_lit->jG,Oper->jJ,execOp->jK,setRow_heap->jL,Ending->jP,undef->jQ,results_cell_row->jW,Operand->jY,below_setRow->j1,bodyPost_ret->j6,wp_store_mid->ms,wpS_region->mz,leaves_cons->p6
open Go.Proofs.Tryz renaming prog->ih
open Go.Ending renaming returned->ja
open _root_.Nat renaming le_refl->jc,lt_of_lt_of_le->jg,le_trans->jk,le_of_eq->jA,zero_le->jC,pow_add->nn,mul_comm->n0,zero_add->ow,eq_zero_or_pos->qa
open _root_.List renaming length_map->jd,size_toArray->jl,length_append->jz,length_take->jI,take_of_length_le->jN,getElem?_eq_getElem->jO,map_cons->jS,mem_cons->jT,getElem?_map->jU,getD->jV,map_append->jX,set_append_right->jZ,set_cons_succ->j0,mem_cons_self->j4,getElem?_eq_some_iff->j5,mem_cons_of_mem->j9,not_mem_nil->ki,length_cons->kl,set->kw,map_nil->lo,mem_of_getElem?->lv,append_assoc->oj,mem_append->ol,map->oo,map_toArray->o4,replicate->pr,cons_append->qb,mem_nil_iff->qc,take_succ_eq_append_getElem->qd,flatMap_def->qf,mem_singleton->qg,take_length->qh,eq_nil_of_length_eq_zero->qi,getElem?_toArray->ql,take_add_one->qm
open Go.World renaming alloc_heap_new->je,size_alloc->jm,ownsRow_nil->j8,setRow->mb
open _root_.Array renaming getElem?_eq_some_iff->jf,ext'->km,toList_setIfInBounds->kn,getElem?_setIfInBounds_ne->qe,replicate->qo
open Go.Value renaming oneCell'->jn,slice->jD,int->jF
open Go.Proofs renaming intOf->jo
open Go.Proofs.Tryz renaming underlying55->jr,underlying31->jv,underlying43->jH,underlying23->j3,ntmps35->j7,underlying54->pz
open Go.NoPanic renaming normal->jt
open Go.RowKit.Below renaming refl->jM
open _root_.Int renaming eq_ofNat_of_zero_le->lw,toNat_natCast->qk
open _root_.BitVec renaming eq_of_toNat_eq->ob,ofNat->oi,toNat_ofNat->qn
open Go.IntKind renaming i64->pa,wrap_i64->qj
structure Vld(M c:Nat)(wr:hZ)(l:List Val)(a:hU)(b:List hU):Prop where
 box:wr.heap[c]?=A (hK #[I N 3,I N 0,hQ ⟨#[]⟩,a] 43 (0,0))
 own:wr.ownsRow M 43 4 a l.length (aW l b)
 kids:ax (λg=>M<=g/\g<wr.heap.size/\a.ownBlock≠A g) wr l b
 sz:M<=wr.heap.size
theorem Vld.start{M a:Nat}{w:hZ}(b:w.heap[a]?=A (hK #[I N 3,I N 0,hQ ⟨#[]⟩,bE] 43 (0,0)))(c:M<=w.heap.size):Vld M a w [] bE []:=
 ⟨b,by simpa [aW]using j8 w M 43 4,by rw[ax],c⟩
theorem CH{B sz n:Nat}{e:jq}{w w':hZ}{v:hU}{xs:List hU}(h:w.ownsRow B e sz v n xs)(hk:∀k,B<=k->k<w.heap.size->w'.heap[k]?=w.heap[k]?):w'.ownsRow B e sz v n xs:=by
 refine⟨h.1,?_⟩
 rcases h.2 with a|⟨g,c,d,f,a,b,i⟩
 ·exact .inl a
 exact .inr ⟨g,c,d,f,a,(hk g a (jf.1 b).1).trans b,i⟩
theorem Vld.later{M a:Nat}{wr d:hZ}{l:List Val}{e:hU}{c:List hU}(h:Vld M a wr l e c)(i:a<M)(f:wr.heap.size<=d.heap.size)(hk:∀k,a<=k->k<wr.heap.size->d.heap[k]?=wr.heap[k]?):Vld M a d l e c:=
 ⟨(hk a (jc _) (jg i h.sz)).trans h.box,CH h.own (λk g b=>hk k Y b),ax.mono (λg b=>⟨b.1,jg b.2.1 f,b.2.2⟩) l c (ax.keep (λg b=>hk g Y b.2.1) l c h.kids),jk h.sz f⟩
theorem Vld.push{M f:Nat}{a p i:hZ}{l:List Val}{j n:hU}{c:List hU}(h:Vld M f a l j c)(v:f<M){x:Val}{d:hU}
 (s:ao (λg=>M<=g/\g<a.heap.size/\j.ownBlock≠A g) a x d) (m:aV M 43 4 a p j n (l.length+1) (aW l c++ee x d))
 (t:i.heap[f]?=A (hK #[I N 3,I N 0,hQ ⟨#[]⟩,n] 43 (0,0))) (o:kz f p i):Vld M f i (l++[x]) n (c++[d]):=by
 have u:=h.kids.len;have q:∀g,(M<=g/\g<a.heap.size/\j.ownBlock≠A g)->i.heap[g]?=a.heap[g]?:=λg b=>
  (o.block g Y).trans (m.grown.block g b.2.1 (λe=>b.2.2 e.symm))
 have r:∀g,(M<=g/\g<a.heap.size/\j.ownBlock≠A g)->(M<=g/\g<i.heap.size/\n.ownBlock≠A g):=λg b=>
  ⟨b.1,by rw[o.size];exact jg b.2.1 m.grown.size,m.ne b.2.1 b.2.2⟩
 refine⟨t,?_,ax.append (ax.mono r _ _ (ax.keep q _ _ h.kids)) (ax.one (ao.mono r _ _ (ao.keep q _ _ s))),?_⟩
 ·have e:aW (l++[x]) (c++[d])=aW l c++ee x d:=by
   rw[m8 l [x] c [d] u];simp[aW]
  rw[e,jz];exact CH m.own (λk w _=>o.block k Y)
 rw[o.size];exact jk h.sz m.grown.size
def BV(R:Nat)(w:hZ)(o:Option (Val×LBy))(e:jP)(w':hZ):Prop:=
 aD R w.heap.size w w'/\match o with
  |some r=>(∃a,e=ja (ic #[I N r.1.k,I N r.1.n,hQ r.1.s,a])/\ao (λg=>w.heap.size<=g/\g<w'.heap.size) w' r.1 a)/\RdC w' R r.2
  |none=>e=.panicked gK
theorem Ed:∀(f i:Nat) (l:LBy) (r:Nat×LBy),i+f=9->bG f i l=A r->r.1*2^(7*i)<2^64
 |f,i,[],r,_,h=>by cases f<;>simp[bG]at h
 |0,i,b::l,r,d,h=>by
  obtain rfl:i=9:=Y;simp only[bG]at h
  split at h
  ·rename_i a
   split at h
   ·injection h with h
    rw[<-h];have:b.toNat<=1:=by have:=a.2;omega
    show b.toNat*2^63<2^64;omega
   cases h
  cases h
 |f+1,i,b::l,r,d,h=>by
  simp only[bG]at h
  split at h
  ·split at h
   ·injection h with h
    rw[<-h];have a:2^(7*i)<=2^56:=Nat.pow_le_pow_right Y Y;have c:b.toNat<256:=b.isLt;show b.toNat*2^(7*i)<2^64;have:b.toNat*2^(7*i)<=255*2^56:=Nat.mul_le_mul Y a;have:255*2^56<2^64:=by decide
    omega
   cases hh:bG f (i+1) l with
   |none=>rw[hh]at h;cases h
   |some q=>
    rw[hh]at h;injection h with h
    rw[<-h];have a:=Ed f (i+1) l q Y hh;have e:2^(7*(i+1))=128*2^(7*i):=by rw[show 7*(i+1)=7*i+7 by omega,nn,n0]
    show(b.toNat%128+128*q.1)*2^(7*i)<2^64;rw[e]at a;rw[Nat.add_mul];have c:q.1*(128*2^(7*i))=128*q.1*2^(7*i):=by rw[<-Nat.mul_assoc,n0 q.1 128]
    rw[c]at a;have n:(b.toNat%128)*2^(7*i)<128*2^(7*i):=Nat.mul_lt_mul_of_pos_right Y (Nat.pos_of_ne_zero av);have g:2^64=2^(64-7*i-7)*(128*2^(7*i)):=by
     rw[show 128*2^(7*i)=2^(7*i+7) by rw[nn,n0],<-nn]
     congr 1
     omega
    have j:128*q.1*2^(7*i)=q.1*(128*2^(7*i)):=c.symm;rw[j]at a⊢;rw[g]at a⊢;have k:q.1<2^(64-7*i-7):=Nat.lt_of_mul_lt_mul_right a;have m:(q.1+1)*(128*2^(7*i))<=2^(64-7*i-7)*(128*2^(7*i)):=Nat.mul_le_mul_right _ k;rw[Nat.add_mul,Nat.one_mul]at m;omega
  cases h
theorem zu{l:LBy}{r:Nat×LBy}(h:bG 9 0 l=A r):r.1<18446744073709551616:=by
 have:=Ed 9 0 l r rfl h
 simpa using this
noncomputable def eU(b:LBy):Option Cmt:=by
 classical exact(dec b).bind λv=>(fx v).bind λc=>if eG c/\enc (vL (aA c))=b then A c else hF
@[simp] theorem OS (n):(vI n).k=1:=rfl
@[simp] theorem OV (b):(vT b).k=2:=rfl
@[simp] theorem OW (l):(vL l).k=3:=rfl
@[simp] theorem OX (n):(vI n).n=n:=rfl
@[simp] theorem OF (b):(vT b).s=ofB b:=rfl
@[simp] theorem OQ (l):(vL l).l=l:=rfl
theorem og(n:Int)(l:List Val):rI (vI n::l)=A (n,l):=by simp[rI,nx]
theorem z6(b:LBy)(l:List Val):rT (vT b::l)=A (ofB b,l):=by simp[rT,nx]
theorem Nb(x l:List Val):rL (vL x::l)=A (x,l):=by simp[rL,nx]
theorem Bw(b:LBy)(h:b.length=32)(l:List Val):rD (vT b::l)=A (b,l):=by
 rw[rD,z6,jp,if_pos (by rw[tu];exact h),m9]
theorem Cl(n:Int)(b:LBy)(l:List Val):rW (vI n::vT b::l)=A ((n,b),l):=by
 rw[rW,og,jp,z6,jR,m9]
theorem KT(x:Chg):gR x.val.l=A x:=by
 show gR [vI x.k,vI x.d,vI x.p,vI x.v,vI x.c]=A x;simp only[gR,og,jp,jR]
theorem G9(x:Bx):rBx x.val.l=A x:=by
 show rBx [vI x.node,vI x.lev,vI x.u,vT x.body]=A x;simp only[rBx,og,Cl,jp,jR]
theorem Lf(x:Wl):rWl x.val.l=A x:=by
 show rWl [vI x.dev,vI x.u,vT x.body]=A x;simp only[rWl,og,Cl,jp,jR]
theorem tk{α:Type}(f:List Val->Option α)(g:α->Val)(hk:∀x,(g x).k=3)(a:∀x,f (g x).l=A x):∀l:List α,bF f (l.map g)=A l
 |[]=>rfl
 |x::l=>by
  rw[jS,bF,if_pos (hk x),a x,jp,tk f g hk a l,jR]
theorem A9:∀l:List Int,cP (l.map vI)=A l
 |[]=>rfl
 |x::l=>by rw[jS,cP,if_pos (show(vI x).k=1 from rfl),A9 l,jR];rfl
theorem Lo(c:Cmt)(a:c.parent.length=32)(b:c.confirm.length=32):fx (vL (aA c))=A c:=by
 have e:(vL (aA c)).l=[vI c.folder,vI c.epoch,vT c.parent,vI c.author,vL (c.chg.map Chg.val),vL (c.path.map vI),vL (c.box.map Bx.val),vL (c.wel.map Wl.val),vT c.confirm,vI c.r,vI c.s]:=rfl;simp only[fx,e,og,Nb,jp,jR,Bw _ a,Bw _ b,tk gR Chg.val (λ_=>rfl) KT,tk rBx Bx.val (λ_=>rfl) G9,
  tk rWl Wl.val (λ_=>rfl) Lf,A9]
theorem AF(c:Cmt)(a:c.parent.length=32)(b:c.confirm.length=32)(d:dy (aA c))(e:eG c):eU (enc (vL (aA c)))=A c:=by
 unfold eU;rw[CP _ d.wf,jp,Lo c a b,jp,if_pos ⟨e,rfl⟩]
theorem zg{b:LBy}{c:Cmt}(h:eU b=A c):eG c/\enc (vL (aA c))=b:=by
 unfold eU at h
 cases h1:dec b with
 |none=>rw[h1]at h;cases h
 |some v=>
  rw[h1,jp]at h
  cases h2:fx v with
  |none=>rw[h2]at h;cases h
  |some d=>
   rw[h2,jp]at h
   split at h
   ·rename_i a;injection h with h;subst h;exact a
   cases h
theorem kU{k:Int}{l:List Val}{r:Val×List Val}(h:nx k l=A r):l=r.1::r.2/\r.1.k=k:=by
 rcases l with _|⟨x,l⟩
 ·cases h
 rw[nx]at h
 split at h
 ·injection h with h;rw[<-h];exact⟨rfl,by assumption⟩
 cases h
theorem BS{f:Nat}{x:Val}(h:wfV f x)(hk:x.k=1):x=vI x.n/\IR x.n:=by
 obtain⟨k,n,s,l⟩:=x;obtain rfl:k=1:=hk
 cases f<;>rw[wfV]at h<;>rcases h with⟨-,a,b,rfl,rfl⟩|⟨e,-⟩|⟨e,-⟩<;>first|exact⟨rfl,a,b⟩|exact absurd e G
theorem Is{f:Nat}{x:Val}(h:wfV f x)(hk:x.k=2):x=vT (aK x.s)/\x.s.size<4611686018427387904:=by
 obtain⟨k,n,s,l⟩:=x;obtain rfl:k=2:=hk
 cases f<;>rw[wfV]at h<;>rcases h with⟨e,-⟩|⟨-,rfl,a,rfl⟩|⟨e,-⟩<;>first|exact⟨by rw[vT];show Val.mk 2 0 s []=Val.mk 2 0 (ofB (aK s)) [];rw[ww],a⟩|exact absurd e G
theorem nR{f:Nat}{x:Val}(h:wfV f x)(hk:x.k=3):∃g,f=g+1/\x=vL x.l/\x.l.length<4611686018427387904/\∀y∈x.l,wfV g y:=by
 obtain⟨k,n,s,l⟩:=x;obtain rfl:k=3:=hk
 rcases f with _|f
 ·rw[wfV]at h;rcases h with⟨e,-⟩|⟨e,-⟩|⟨-,-,-,-,e⟩<;>first|exact absurd e G|exact e.elim
 rw[wfV]at h
 rcases h with⟨e,-⟩|⟨e,-⟩|⟨-,rfl,rfl,a,b⟩
 ·exact absurd e G
 ·exact absurd e G
 exact⟨f,rfl,rfl,a,b⟩
theorem fP{f:Nat}{l:List Val}{r:Int×List Val}(h:rI l=A r)(a:∀x∈l,wfV f x):l=vI r.1::r.2/\IR r.1:=by
 unfold rI at h
 cases h1:nx 1 l with
 |none=>rw[h1]at h;cases h
 |some q=>
  rw[h1]at h;injection h with h
  obtain⟨e,b⟩:=kU h1;have:=BS (a q.1 (by rw[e];exact j4 ..)) b;rw[<-h];exact⟨by rw[e];exact congrArg (·::q.2) this.1,this.2⟩
theorem Au{f:Nat}{l:List Val}{r:ByteArray×List Val}(h:rT l=A r)(a:∀x∈l,wfV f x):l=vT (aK r.1)::r.2:=by
 unfold rT at h
 cases h1:nx 2 l with
 |none=>rw[h1]at h;cases h
 |some q=>
  rw[h1]at h;injection h with h
  obtain⟨e,b⟩:=kU h1;have:=Is (a q.1 (by rw[e];exact j4 ..)) b;rw[<-h,e];exact congrArg (·::q.2) this.1
theorem ta{f:Nat}{l:List Val}{r:List Val×List Val}(h:rL l=A r)(a:∀x∈l,wfV (f+1) x):l=vL r.1::r.2/\∀x∈r.1,wfV f x:=by
 unfold rL at h
 cases h1:nx 3 l with
 |none=>rw[h1]at h;cases h
 |some q=>
  rw[h1]at h;injection h with h
  obtain⟨e,b⟩:=kU h1;obtain⟨g,i,c,-,d⟩:=nR (a q.1 (by rw[e];exact j4 ..)) b;obtain rfl:f=g:=Y;rw[<-h];exact⟨by rw[e];exact congrArg (·::q.2) c,d⟩
theorem BL{f:Nat}{l:List Val}{r:LBy×List Val}(h:rD l=A r)(a:∀x∈l,wfV f x):l=vT r.1::r.2/\r.1.length=32:=by
 unfold rD at h
 cases h1:rT l with
 |none=>rw[h1]at h;cases h
 |some q=>
  rw[h1,jp]at h
  split at h
  ·injection h with h
   rw[<-h];exact⟨Au h1 a,by rw[et];assumption⟩
  cases h
theorem CR{f:Nat}{l:List Val}{r:(Int×LBy)×List Val}(h:rW l=A r)(a:∀x∈l,wfV f x):l=vI r.1.1::vT r.1.2::r.2/\IR r.1.1:=by
 unfold rW at h
 cases h1:rI l with
 |none=>rw[h1]at h;cases h
 |some q=>
  rw[h1,jp]at h;obtain⟨e,b⟩:=fP h1 a
  cases h2:rT q.2 with
  |none=>rw[h2]at h;cases h
  |some p=>
   rw[h2,jR]at h;injection h with h
   have c:=Au h2 (f:=f) (λx d=>a x (by rw[e];exact j9 _ d));rw[<-h];exact⟨by rw[e,c],b⟩
theorem eR{f:Nat}{l:List Val}{x:Val}{r:List Val}(a:∀x∈l,wfV f x)(e:l=x::r):∀x∈r,wfV f x:=λy b=>a y (by rw[e];exact j9 _ b)
theorem cU{α β:Type}{o:Option α}{f:α->Option β}{b:β}(h:o.bind f=A b):∃a,o=A a/\f a=A b:=by
 rcases o with _|a
 ·cases h
 exact⟨a,rfl,h⟩
theorem fi{α β:Type}{o:Option α}{f:α->β}{b:β}(h:o.map f=A b):∃a,o=A a/\f a=b:=by
 rcases o with _|a
 ·cases h
 exact⟨a,rfl,by injection h⟩
theorem Ik{f:Nat}{l:List Val}{c:Chg}(h:gR l=A c)(i:∀x∈l,wfV f x):∃r,l=c.val.l++r/\wfV (f+1) c.val:=by
 obtain⟨a,t,h⟩:=cU h;obtain⟨b,u,h⟩:=cU h;obtain⟨d,v,h⟩:=cU h;obtain⟨e,w,h⟩:=cU h;obtain⟨g,y,h⟩:=fi h;subst h;obtain⟨j,z⟩:=fP t i;have k:=eR i j;obtain⟨m,B⟩:=fP u k;have n:=eR k m;obtain⟨o,C⟩:=fP v n;have p:=eR n o;obtain⟨q,D⟩:=fP w p;have E:=eR p q;obtain⟨F,H⟩:=fP y E;refine⟨g.2,by rw[j,m,o,q,F];rfl,fK (λx s=>?_) av⟩;simp only[jT,ki,or_false]at s
 rcases s with rfl|rfl|rfl|rfl|rfl
 ·exact bS z
 ·exact bS B
 ·exact bS C
 ·exact bS D
 exact bS H
theorem Ml{f:Nat}{l:List Val}{c:Bx}(h:rBx l=A c)(e:∀x∈l,wfV f x):∃r,l=c.val.l++r/\wfV (f+1) c.val:=by
 obtain⟨a,o,h⟩:=cU h;obtain⟨b,p,h⟩:=cU h;obtain⟨d,q,h⟩:=fi h;subst h;obtain⟨g,s⟩:=fP o e;have i:=eR e g;obtain⟨j,t⟩:=fP p i;have k:=eR i j;obtain⟨m,u⟩:=CR q k;refine⟨d.2,by rw[g,j,m];rfl,fK (λx n=>?_) av⟩;simp only[jT,ki,or_false]at n
 rcases n with rfl|rfl|rfl|rfl
 ·exact bS s
 ·exact bS t
 ·exact bS u
 exact k _ (by rw[m];simp)
theorem Ga{f:Nat}{l:List Val}{c:Wl}(h:rWl l=A c)(b:∀x∈l,wfV f x):∃r,l=c.val.l++r/\wfV (f+1) c.val:=by
 obtain⟨a,k,h⟩:=cU h;obtain⟨d,m,h⟩:=fi h;subst h;obtain⟨e,n⟩:=fP k b;have g:=eR b e;obtain⟨i,o⟩:=CR m g;refine⟨d.2,by rw[e,i];rfl,fK (λx j=>?_) av⟩;simp only[jT,ki,or_false]at j
 rcases j with rfl|rfl|rfl
 ·exact bS n
 ·exact bS o
 exact g _ (by rw[i];simp)
theorem JY:∀(b a:Nat),a<=b->(aX a).length<=(aX b).length:=by
 intro b
 induction b using Nat.strongRecOn with
 |ind b d=>
  intro a e
  by_cases c:a<128
  ·rw[iN c];exact Nf b
  have f:¬b<128:=Y;rw[mU c,mU f];simp only[kl];have:=d (b/128) Y (a/128) (Nat.div_le_div_right e);omega
theorem ER(a b:List Val):(encs a).length<=(encs (a++b)).length:=by rw[oP,jz];omega
theorem Eh(a b:List Val):(enc (vL a)).length<=(enc (vL (a++b))).length:=by
 rw[gN,gN];have c:=JY (a++b).length a.length av;have d:=ER a b;simp only[kl,jz]at*;omega
theorem rC{α:Type}{f:Nat}{r:List Val->Option α}{g:α->Val}(e:∀x,g x=vL (g x).l)(i:∀l c,r l=A c->(∀x∈l,wfV f x)->∃t,l=(g c).l++t/\wfV (f+1) (g c)):
 ∀(l:List Val) (c:List α),bF r l=A c->(∀x∈l,wfV (f+1) x)->c.length=l.length/\(encs (c.map g)).length<=(encs l).length/\∀x∈c.map g,wfV (f+1) x
 |[],c,h,d=>by
  rw[bF]at h;injection h with h
  subst h;exact⟨rfl,jc _,λx b=>by cases b⟩
 |v::l,c,h,d=>by
  rw[bF]at h
  split at h
  ·rename_i hk
   obtain⟨a,j,h⟩:=cU h;obtain⟨k,m,h⟩:=fi h;subst h;obtain⟨n,z,o⟩:=rC e i l k m (λx b=>d x (j9 _ b));obtain⟨q,B,p,-,s⟩:=nR (d v (j4 ..)) hk;obtain rfl:f=q:=Y;obtain⟨t,u,w⟩:=i v.l a j s;refine⟨by simp[n],?_,λx b=>?_⟩
   ·have y:=Eh (g a).l t
    rw[<-u,<-p,<-e a]at y;simp only[jS,encs,jz];omega
   rw[jS]at b
   rcases jT.1 b with rfl|b
   ·exact w
   exact o x b
  cases h
theorem Cj{f:Nat}:∀(l:List Val) (p:List Int),cP l=A p->(∀x∈l,wfV f x)->l=p.map vI
 |[],p,h,a=>by
  rw[cP]at h;injection h with h
  subst h
  rfl
 |v::l,p,h,a=>by
  rw[cP]at h
  split at h
  ·rename_i hk
   obtain⟨q,b,h⟩:=fi h;subst h;have e:=Cj l q b (λx c=>a x (j9 _ c));have c:=(BS (a v (j4 ..)) hk).1;rw[jS,<-e];exact congrArg (·::l) c
  cases h
theorem ry{a b:List Val}(c:a.length=b.length)(d:(encs a).length<=(encs b).length):(enc (vL a)).length<=(enc (vL b)).length:=by
 rw[gN,gN,c];simp only[kl,jz];omega
theorem MU{f:Nat}{v:Val}{c:Cmt}(h:fx v=A c)(hv:wfV (f+1+1+1) v)(hk:v.k=3):
 (enc (vL (aA c))).length<=(enc v).length/\wfV (f+1+1+1) (vL (aA c))/\c.parent.length=32/\c.confirm.length=32:=by
 obtain⟨g,eg,ad,hl,d⟩:=nR hv hk;obtain rfl:g=f+1+1:=Y;obtain⟨a,h1,h⟩:=cU h;obtain⟨b,h2,h⟩:=cU h;obtain⟨p,h3,h⟩:=cU h;obtain⟨au,h4,h⟩:=cU h;obtain⟨i,h5,h⟩:=cU h;obtain⟨C,o,h⟩:=cU h;obtain⟨m,h7,h⟩:=cU h;obtain⟨al,h8,h⟩:=cU h;obtain⟨j,h9,h⟩:=cU h;obtain⟨box,Zj,h⟩:=cU h;obtain⟨k,a2,h⟩:=cU h;obtain⟨wel,a3,h⟩:=cU h;obtain⟨q,a4,h⟩:=cU h;obtain⟨r,a5,h⟩:=cU h;obtain⟨s,ba,h⟩:=fi h;subst h;obtain⟨D,i1⟩:=fP h1 d;have E:=eR d D;obtain⟨F,i2⟩:=fP h2 E;have t:=eR E F;obtain⟨u,i3⟩:=BL h3 t;have H:=eR t u;obtain⟨K,i4⟩:=fP h4 H;have M:=eR H K;obtain⟨P,i5⟩:=ta h5 M;have Q:=eR M P;obtain⟨R,i7⟩:=ta h7 Q;have S:=eR Q R;obtain⟨U,i9⟩:=ta h9 S;have V:=eR S U;obtain⟨W,bb⟩:=ta a2 V;have w:=eR V W;obtain⟨y,bc⟩:=BL a4 w;have X:=eR w y;obtain⟨aa,bd⟩:=fP a5 X;have bf:=eR X aa;obtain⟨bg,bh⟩:=fP ba bf;obtain⟨a1,bk,bl⟩:=rC (g:=Chg.val) (λ_=>rfl) (λl c e d=>Ik e d) i.1 C o i5;obtain⟨b1,b2,b3⟩:=rC (g:=Bx.val) (λ_=>rfl) (λl c e d=>Ml e d) j.1 box Zj i9;obtain⟨c1,c2,c3⟩:=rC (g:=Wl.val) (λ_=>rfl) (λl c e d=>Ga e d) k.1 wel a3 bb;have ep:=Cj m.1 al h8 i7;have l:v.l=[vI a.1,vI b.1,vT p.1,vI au.1,vL i.1,vL m.1,vL j.1,vL k.1,vT q.1,vI r.1,vI s.1]++s.2:=by
  rw[D,F,u,K,P,R,U,W,y,aa,bg];rfl
 have m1:vL i.1∈v.l:=by rw[l];simp
 have m2:vL m.1∈v.l:=by rw[l];simp
 have m3:vL j.1∈v.l:=by rw[l];simp
 have m4:vL k.1∈v.l:=by rw[l];simp
 have l1:=ry (a:=C.map Chg.val) (b:=i.1) (by simpa using a1) bk;have l2:=ry (a:=box.map Bx.val) (b:=j.1) (by simpa using b1) b2;have l3:=ry (a:=wel.map Wl.val) (b:=k.1) (by simpa using c1) c2;have z:∀{n:List Val} {B:List Val},n.length=B.length->(∀x∈n,wfV (f+1) x)->vL B∈v.l->wfV (f+1+1) (vL n):=by
  intro n B bm e hm;obtain⟨g,eg,-,o,-⟩:=nR (d _ hm) rfl;unfold vL;rw[wfV];exact .inr (.inr ⟨rfl,rfl,rfl,by rw[bm];exact o,e⟩)
 refine⟨?_,?_,i3,bc⟩
 ·have k1:=Eh [vI a.1,vI b.1,vT p.1,vI au.1,vL i.1,vL m.1,vL j.1,vL k.1,vT q.1,vI r.1,vI s.1] s.2
  rw[<-l,<-ad]at k1;refine jk (ry (b:=[vI a.1,vI b.1,vT p.1,vI au.1,vL i.1,vL m.1,vL j.1,vL k.1,vT q.1,vI r.1,vI s.1]) rfl ?_) k1;simp only[aA,encs,jz,List.length_nil];rw[<-ep];omega
 unfold vL;rw[wfV];refine .inr (.inr ⟨rfl,rfl,rfl,by simp[aA],λx e=>?_⟩);simp only[aA,jT,ki,or_false]at e
 rcases e with rfl|rfl|rfl|rfl|rfl|rfl|rfl|rfl|rfl|rfl|rfl
 ·exact bS i1
 ·exact bS i2
 ·exact t _ (by rw[u];simp)
 ·exact bS i4
 ·exact z (by simpa using a1) (λx e=>bl x e) m1
 ·rw[<-ep];exact d _ m2
 ·exact z (by simpa using b1) (λx e=>b3 x e) m3
 ·exact z (by simpa using c1) (λx e=>c3 x e) m4
 ·exact w _ (by rw[y];simp)
 ·exact bS bd
 exact bS bh
theorem uv:∀(f i:Nat) (l:LBy) (r:Nat×LBy),i+f=9->bG f i l=A r->l=aX r.1++r.2/\(0<i->0<r.1)
 |f,i,[],r,_,h=>by cases f<;>simp[bG]at h
 |0,i,b::l,r,d,h=>by
  simp only[bG]at h
  split at h
  ·rename_i c
   split at h
   ·injection h with h
    rw[<-h];refine⟨?_,λe=>?_⟩
    ·rw[iN (by assumption)];simp
    have:b≠0#8:=c.1.resolve_left Y
    rcases qa b.toNat with a|a
    ·exact absurd (ob a) this
    exact a
   cases h
  cases h
 |f+1,i,b::l,r,d,h=>by
  simp only[bG]at h
  split at h
  ·rename_i c
   split at h
   ·injection h with h
    rw[<-h];refine⟨?_,λe=>?_⟩
    ·rw[iN (by assumption)];simp
    have:b≠0#8:=c.1.resolve_left Y
    rcases qa b.toNat with a|a
    ·exact absurd (ob a) this
    exact a
   rename_i j;obtain⟨q,a,h⟩:=fi h;subst h;obtain⟨e,g⟩:=uv f (i+1) l q Y a;have k:=g Y;have m:b.toNat<256:=b.isLt;refine⟨?_,λ_=>by show 0<b.toNat%128+128*q.1;omega⟩;show b::l=aX (b.toNat%128+128*q.1)++q.2;rw[mU Y,show(b.toNat%128+128*q.1)/128=q.1 by omega,show(b.toNat%128+128*q.1)%128+128=b.toNat by omega];rw[show oi 8 b.toNat=b from by simp,e]
   rfl
  cases h
theorem Dt{l:LBy}{r:Nat×LBy}(h:dT l=A r):l=aX r.1++r.2/\r.1<=r.2.length:=by
 unfold dT at h;obtain⟨q,a,h⟩:=cU h
 split at h
 ·injection h with h;subst h
  exact⟨(uv 9 0 l q rfl a).1,by assumption⟩
 cases h
theorem BB{g:LBy->Option (Val×LBy)}{W:Val->Prop}:∀(n:Nat) (a:Nat),(∀l r,l.length<=a->g l=A r->l=enc r.1++r.2/\W r.1)->∀(l:LBy) (q:List Val×LBy),l.length<=a->dE g n l=A q->l=encs q.1++q.2/\q.1.length=n/\∀x∈q.1,W x
 |0,a,c,l,q,d,h=>by
  rw[dE]at h;injection h with h
  subst h;exact⟨rfl,rfl,λx b=>by cases b⟩
 |n+1,a,c,l,q,d,h=>by
  rw[dE]at h;obtain⟨r,f,h⟩:=cU h;obtain⟨p,i,h⟩:=fi h;subst h;obtain⟨e,j⟩:=c l r d f;obtain⟨k,m,o⟩:=BB n a c r.2 p (by rw[e,jz]at d;omega) i;refine⟨by rw[e,k];simp[encs],by simp[m],λx b=>?_⟩
  rcases jT.1 b with rfl|b
  ·exact j
  exact o x b
theorem NP(a:Nat):eT (fI a)=a:=by
 unfold eT fI
 by_cases h:a%2=0
 ·rw[if_pos h,if_pos Y];omega
 rw[if_neg h,if_neg Y];omega
theorem Kn{a:Nat}(h:a<18446744073709551616):IR (fI a):=by
 unfold fI IR
 split<;>omega
theorem zM:∀(f:Nat) (l:LBy) (r:Val×LBy),l.length<=1000000->bV f l=A r->l=enc r.1++r.2/\wfV f r.1
 |f,[],r,_,h=>by rw[show bV f []=hF by cases f<;>rfl]at h;cases h
 |f,b::l,r,c,h=>by
  by_cases g:b=1#8
  ·subst g
   rw[show bV f (1#8::l)=(bG 9 0 l).map λr=>(.mk 1 (fI r.1) emS [],r.2) by cases f<;>rfl]at h;obtain⟨q,a,h⟩:=fi h;subst h;have e:=(uv 9 0 l q rfl a).1;refine⟨?_,bS (Kn (zu a))⟩;show 1#8::l=enc (.mk 1 (fI q.1) emS [])++q.2;rw[enc,if_pos rfl,NP,e]
   rfl
  by_cases a:b=2#8
  ·subst a
   rw[show bV f (2#8::l)=(dT l).map λr=>(.mk 2 0 (ofB (r.2.take r.1)) [],r.2.drop r.1) by cases f<;>rfl]at h;obtain⟨q,d,h⟩:=fi h;subst h;obtain⟨e,k⟩:=Dt d;have m:(ofB (q.2.take q.1)).size=q.1:=by rw[tu,jI];omega
   have i:q.2.length<=l.length:=by rw[e,jz];omega
   have j:l.length<=1000000:=by simp at c;omega
   refine⟨?_,?_⟩
   ·show 2#8::l=enc (.mk 2 0 (ofB (q.2.take q.1)) [])++q.2.drop q.1
    rw[enc,if_neg G,if_pos rfl,m,m9,qb,oj,List.take_append_drop];exact congrArg _ e
   show wfV f (vT (q.2.take q.1));exact nA (by rw[jI];omega)
  by_cases d:b=3#8
  ·subst d
   cases f with
   |zero=>rw[show bV 0 (3#8::l)=hF from rfl]at h;cases h
   |succ f=>
    rw[show bV (f+1) (3#8::l)=(dT l).bind λr=>(dE (bV f) r.1 r.2).map λq=>(.mk 3 0 emS q.1,q.2)from rfl]at h;obtain⟨q,m,h⟩:=cU h;obtain⟨p,n,h⟩:=fi h;subst h;obtain⟨e,k⟩:=Dt m;have j:l.length<=1000000:=by simp at c;omega
    have i:q.2.length<=1000000:=by rw[e,jz]at j;omega
    obtain⟨o,s,t⟩:=BB (W:=wfV f) q.1 1000000 (λl r c h=>zM f l r c h) q.2 p i n;refine⟨?_,?_⟩
    ·show 3#8::l=enc (vL p.1)++p.2
     rw[gN,qb,oj,s,<-o,<-e]
    show wfV (f+1) (vL p.1);exact fK t Y
  rw[show bV f (b::l)=hF by cases f<;>simp only[bV,if_neg g,if_neg a,if_neg d]]at h;cases h
theorem zk{l:LBy}{v:Val}(a:l.length<=1000000)(h:dec l=A v):l=enc v/\wfV 16 v:=by
 unfold dec at h;obtain⟨r,b,h⟩:=cU h
 split at h
 ·rename_i c
  injection h with h
  obtain⟨e,d⟩:=zM 16 l r a b;rw[c,List.append_nil]at e;rw[<-h];exact⟨e,d⟩
 cases h
theorem wT{l:LBy}{v:Val}{c:Cmt}(p:l.length<=800000)(h:dec l=A v)(g:fx v=A c):dy (aA c)/\c.parent.length=32/\c.confirm.length=32:=by
 obtain⟨e,d⟩:=zk Y h;have hk:v.k=3:=by
  obtain⟨a,m,-⟩:=cU g;obtain⟨q,o,-⟩:=fi m;obtain⟨i,-⟩:=kU o;obtain⟨k,n,s,j⟩:=v;rw[wfV]at d
  rcases d with⟨-,-,-,-,b⟩|⟨-,-,-,b⟩|⟨b,-⟩
  ·rw[show j=q.1::q.2 from i]at b;cases b
  ·rw[show j=q.1::q.2 from i]at b;cases b
  exact b
 obtain⟨a,b,i,j⟩:=MU (f:=13) g d hk;exact⟨⟨b,by rw[<-e]at a;omega⟩,i,j⟩
structure vK(c:Cmt):Prop where
 box:∀b∈c.box,b.body.length<=200
 wel:∀b∈c.wel,b.body.length<=200
 nchg:c.chg.length<=10
 npath:c.path.length<=12
 nbox:c.box.length<=40
 nwel:c.wel.length<=10
structure rk(c:Cmt):Prop where
 ints:IR c.folder/\IR c.epoch/\IR c.author/\IR c.r/\IR c.s
 chg:∀x∈c.chg,IR x.k/\IR x.d/\IR x.p/\IR x.v/\IR x.c
 path:∀x∈c.path,IR x
 box:∀b∈c.box,IR b.node/\IR b.lev/\IR b.u
 wel:∀b∈c.wel,IR b.dev/\IR b.u
theorem JX{c:Cmt}(h:vK c)(a:rk c)(e:c.parent.length=32)(f:c.confirm.length=32):fh c where
 ints:=a.ints
 plen:=e
 clen:=f
 chg:=⟨by have:=h.nchg;omega,a.chg⟩
 path:=⟨h.npath,a.path⟩
 box:=⟨by have:=h.nbox;omega,λb d=>⟨(a.box b d).1,(a.box b d).2.1,(a.box b d).2.2,h.box b d⟩⟩
 wel:=⟨by have:=h.nwel;omega,λb d=>⟨(a.wel b d).1,(a.wel b d).2,h.wel b d⟩⟩

theorem bJ{a:Act}{o:jJ}{x:jY}{c:Array hU}{b:Nat}{f:hZ}{e t:jq}{d:TypeDesc}(g:ih.underlying e=A d)(i:d.isRow=true)(j:(ih.info? e).map (·.size)=A c.size)(k:o.op=.load e x)(m:a.eval x=ji (A ⟨b,0,hF⟩))(n:f.heap[b]?=A (hK c t (0,0))):
 (jK a.eval o).run ih f=.ok (.value (ic c)) f:=by
 have h:=oY (P:=ih) o a e x k b 0 m c.toList _ (sO (t:=t) (l:=c.toList) (by simpa using n)) g i (by rw[Array.length_toList];exact j)
 simpa using h
theorem nN{P:Program}{fn:Func}{p q j:Tmp}{c f:jq}(h:fn.results= #[.cell p c,.cell q f,.tmp j])(tmps:Array hU)(w:hZ)(g k:Nat)(t m:jq)(cs i:Array hU)(fr n:Nat×Nat)(d l:TypeDesc)
 (o:tmps.getD p jQ=ji (A ⟨g,0,hF⟩)) (r:tmps.getD q jQ=ji (A ⟨k,0,hF⟩)) (s:w.heap[g]?=A (hK cs t fr)) (u:w.heap[k]?=A (hK i m n))
 (x:P.underlying c=A d) (y:(match d with| .struct _ | .array _ _=>true|_=>false)=true) (z:(P.info? c).map (·.size)=A cs.size)
 (B:P.underlying f=A l) (C:(match l with| .struct _ | .array _ _=>true|_=>false)=true) (D:(P.info? f).map (·.size)=A i.size):
 (results fn tmps).run P w=.ok (jB #[ic cs,ic i,tmps.getD j jQ]) w:=by
 have e:(results fn tmps).run P w=((asAddr (tmps.getD p jQ)).run P w).andThen λa E=>((loadVar c a).run P E).andThen λv F=>((asAddr (tmps.getD q jQ)).run P F).andThen λb H=>((loadVar f b).run P H).andThen λK M=>.ok (jB #[v,K,tmps.getD j jQ]) M:=by
  simp only[results,h];simp[Sem.run_bind,Result.andThen]
 rw[e,o];simp only[asAddr,Sem.run_pure,Result.andThen_ok,run_loadVar_row w g t c cs fr d s x y z,r,run_loadVar_row w k m f i n l u B C D]
def dG:Cmt:=⟨0,0,dh,0,[],[],[],[],dh,0,0⟩
def eX:CQ:=⟨T hF 0 0,T hF 0 0,T hF 0 0,T hF 0 0⟩
theorem du:dh.length=32:=by simp[dh]
theorem G6(f e a:Int)(b:Array hU)(d:b.size=32)(p:Option jw)(n c:Nat)(w:hZ):
 (Instr.build 31 #[(0,I N f),(1,I N e),(2,ic b),(3,I N a),(4,T p n c)]).run ih w=.ok (ic (#[I N f,I N e]++b++ #[I N a,T p n c,T hF 0 0,T hF 0 0,T hF 0 0]++(dh.map v8).toArray++ #[I N 0,I N 0])) w:=by
 unfold Instr.build;go_simp;rw[CY b _ 2 32 d av];obtain⟨l⟩:=b;simp[Tryz.zeroCells31];have g:l.length=32:=d;rw[if_neg Y,if_neg Y,jZ _ _ Y,jZ _ _ Y,g]
 rfl
theorem Dv(c:Cmt)(a b d e x:hU)(f:c.parent.length=32):(aj c ⟨a,b,d,e⟩).toArray.setIfInBounds 36 x=(aj c ⟨a,x,d,e⟩).toArray:=by
 apply km
 rw[kn];unfold aj;have g:(c.parent.map v8).length=32:=by rw[jd];exact f
 show kw (_ ::_ ::(c.parent.map v8++_)) 36 x=_;rw[j0,j0,jZ _ _ Y,g]
 rfl
theorem um(c:Cmt)(a b d e x:hU)(f:c.parent.length=32):(aj c ⟨a,b,d,e⟩).toArray.setIfInBounds 37 x=(aj c ⟨a,b,x,e⟩).toArray:=by
 apply km
 rw[kn];unfold aj;have g:(c.parent.map v8).length=32:=by rw[jd];exact f
 show kw (_ ::_ ::(c.parent.map v8++_)) 37 x=_;rw[j0,j0,jZ _ _ Y,g]
 rfl
theorem uT(c:Cmt)(a b d e x:hU)(f:c.parent.length=32):(aj c ⟨a,b,d,e⟩).toArray.setIfInBounds 38 x=(aj c ⟨a,b,d,x⟩).toArray:=by
 apply km
 rw[kn];unfold aj;have g:(c.parent.map v8).length=32:=by rw[jd];exact f
 show kw (_ ::_ ::(c.parent.map v8++_)) 38 x=_;rw[j0,j0,jZ _ _ Y,g]
 rfl
theorem M7:(ih.info? 3).map (λi=>(i.zero,i.size,i.bytes))=A (A (I N 0),1,8):=by kernel_rfl
theorem NS:(ih.info? 75).map (λi=>(i.zero,i.size,i.bytes))=A (A (ic #[I N 0,I N 0,T hF 0 0]),3,40):=by kernel_rfl
theorem Ea{w:hZ}{o:jJ}{a:Act}{K:Act->hZ->Prop}{e:Exit->Act->hZ->Prop}(s x:jY)
 (f:o.op=.call {callee:=.builtin .append,args:=#[s,x],argTypes:=#[25,25]})
 (B:Nat) (v:hU) (n:Nat) (xs:List hU) (g:a.eval s=v) (i:w.ownsRow B 3 1 v n xs) (b:hU) (m:Nat) (c:List hU) (j:a.eval x=b) (k:bW w b 1 m c) (l:∀b∈c,b.oneCell'=true)
 (E:n+m<=4000000) (p:B<=w.heap.size) (h:∀d w',aV B 3 1 w w' v d (n+m) (xs++c)->K (a.put o.dst d) w'):o.wp ih a w K e:=by
 obtain⟨q,r,t,u,y⟩:=lz M7;exact lN s x 25 f B 3 q _ 1 8 underlying25 r t u y rfl G v n xs g i b m c j k l (by unfold maxLen;omega) Y p
  λd w' z C D=>h d w' (ly z C D)
theorem AM{w:hZ}{o:jJ}{a:Act}{K:Act->hZ->Prop}{e:Exit->Act->hZ->Prop}(s x:jY)
 (f:o.op=.call {callee:=.builtin .append,args:=#[s,x],argTypes:=#[26,26]})
 (B:Nat) (v:hU) (n:Nat) (xs:List hU) (g:a.eval s=v) (i:w.ownsRow B 73 4 v n xs) (b:hU) (m:Nat) (c:List hU) (j:a.eval x=b) (k:bW w b 4 m c) (l:∀b∈c,b.oneCell'=true)
 (E:n+m<=2900000) (p:B<=w.heap.size) (h:∀d w',aV B 73 4 w w' v d (n+m) (xs++c)->K (a.put o.dst d) w'):o.wp ih a w K e:=by
 obtain⟨q,r,t,u,y⟩:=lz DU;exact lN s x 26 f B 73 q _ 4 48 underlying26 r t u y rfl G v n xs g i b m c j k l (by unfold maxLen;omega) Y p
  λd w' z C D=>h d w' (ly z C D)
theorem zV{w:hZ}{o:jJ}{a:Act}{K:Act->hZ->Prop}{e:Exit->Act->hZ->Prop}(s x:jY)
 (f:o.op=.call {callee:=.builtin .append,args:=#[s,x],argTypes:=#[27,27]})
 (B:Nat) (v:hU) (n:Nat) (xs:List hU) (g:a.eval s=v) (i:w.ownsRow B 75 3 v n xs) (b:hU) (m:Nat) (c:List hU) (j:a.eval x=b) (k:bW w b 3 m c) (l:∀b∈c,b.oneCell'=true)
 (E:n+m<=2900000) (p:B<=w.heap.size) (h:∀d w',aV B 75 3 w w' v d (n+m) (xs++c)->K (a.put o.dst d) w'):o.wp ih a w K e:=by
 obtain⟨q,r,t,u,y⟩:=lz NS;exact lN s x 27 f B 75 q _ 3 40 underlying27 r t u y rfl G v n xs g i b m c j k l (by unfold maxLen;omega) Y p
  λd w' z C D=>h d w' (ly z C D)
theorem gU{B sz n:Nat}{e:jq}{w w':hZ}{v:hU}{xs:List hU}(h:w.ownsRow B e sz v n xs)(hk:∀k,B<=k->k<w.heap.size->w'.heap[k]?=w.heap[k]?):w'.ownsRow B e sz v n xs:=by
 refine⟨h.1,?_⟩
 rcases h.2 with a|⟨g,c,d,f,a,b,i⟩
 ·exact .inl a
 exact .inr ⟨g,c,d,f,a,(hk g a (jf.1 b).1).trans b,i⟩
theorem Eg{w:hZ}{B sz n:Nat}{e:jq}{v:hU}{xs:List hU}(h:w.ownsRow B e sz v n xs)(p:0<n):∃g c d,v=T (A ⟨g,0,hF⟩) n c/\n<=c/\B<=g/\w.heap[g]?=A (hK d e (0,0))/\∀(j:Nat) b,xs[j]?=A b->d[j]?=A b:=by
 rcases h.2 with⟨rfl,q⟩|⟨g,f,i,rfl,k,l,m,r,s,o⟩
 ·omega
 refine⟨g,f,i,rfl,m,k,l,λj b a=>?_⟩;rw[<-o,List.getElem?_take]at a
 split at a
 ·simpa using a
 cases a
theorem mj(c:Cmt)(d e f g:Option jw)(h i j k l m n o:Nat):(aj c ⟨T d h l,T e i m,T f j n,T g k o⟩).toArray.all (·.oneCell')=true:=by
 rw[Array.all_eq_true_iff_forall_mem];intro b a;simp only[aj,List.mem_toArray,jT,ol,qc,or_false]at a
 rcases a with rfl|rfl|a|rfl|rfl|rfl|rfl|rfl|a|rfl|rfl
 ·rfl
 ·rfl
 ·exact gs _ b a
 ·rfl
 ·rfl
 ·rfl
 ·rfl
 ·rfl
 ·exact gs _ b a
 ·rfl
 rfl
theorem Lb(a:LBy)(i:Nat)(b:i<10):(dl a).take (i+1)=(dl a).take i++[((aG 4 (lF (bQ a i)):Nat):Int)]:=by
 rw[qd (by rw[iJ];exact b)];simp[dl]
theorem J5(w:hZ):(Instr.build 55 #[]).run ih w=.ok (ic (dh.map v8).toArray) w:=by
 unfold Instr.build;go_simp
 rfl
theorem Im{w w':hZ}{v:hU}{t:List (Int×Int)}{b j:Nat}{X d:Array hU}{e:jq}(h:aT w v t)(f:w.heap[b]?=A (hK X e (0,0)))(g:w'.heap[b]?=A (hK d e (0,0)))(hk:∀k,k<w.heap.size->k≠b->w'.heap[k]?=w.heap[k]?)
 (k:∀i,i≠j->d[i]?=X[i]?) (a:∃p n c,X[j]?=A (T p n c)):aT w' v t:=by
 obtain⟨p,n,c,a⟩:=a;exact h.ints (rR f g k a hk)
theorem Hw(c:Cmt)(a b d f e:hU)(g:c.parent.length=32)(j:Nat)(h:j≠37):(aj c ⟨a,b,f,e⟩).toArray[j]?=(aj c ⟨a,b,d,e⟩).toArray[j]?:=by
 rw[<-um c a b d e f g,qe (Ne.symm h)]
theorem FD(c:Cmt)(a b d e f:hU)(g:c.parent.length=32)(j:Nat)(h:j≠38):(aj c ⟨a,b,d,f⟩).toArray[j]?=(aj c ⟨a,b,d,e⟩).toArray[j]?:=by
 rw[<-uT c a b d e f g,qe (Ne.symm h)]
theorem kS(c:Cmt)(a b d e:hU)(f:c.parent.length=32)(g:c.confirm.length=32):(aj c ⟨a,b,d,e⟩).toArray[36]?=A b/\(aj c ⟨a,b,d,e⟩).toArray[37]?=A d/\(aj c ⟨a,b,d,e⟩).toArray[38]?=A e/\(aj c ⟨a,b,d,e⟩).toArray.size=73:=by
 have h:=eK c ⟨a,b,d,e⟩ f g;exact⟨by simpa using h.2.2.2.2.1,by simpa using h.2.2.2.2.2.1,by simpa using h.2.2.2.2.2.2.1,by rw[jl,eA _ _ f g]⟩
structure bX{α:Type}(M R:Nat)(t e:jq)(k:Nat)(f:α->hU->List hU)(body:α->LBy)(X:hU->Array hU)(w0 wr:hZ)(n:Nat)(a:hU)(l:List α)(b:List hU):Prop where
 row:da M R t e k X w0 wr n a (cB f l b)
 kids:bH (λg=>M<=g/\g<wr.heap.size/\a.ownBlock≠A g) wr (l.map body) b
theorem bX.later{α:Type}{M R:Nat}{t e:jq}{k:Nat}{f:α->hU->List hU}{body:α->LBy}{X:hU->Array hU}{w0 wr c:hZ}{n:Nat}{d:hU}{l:List α}{i:List hU}(h:bX M R t e k f body X w0 wr n d l i)(j:R<M)(b:ii wr wr c):bX M R t e k f body X w0 c n d l i:=
 ⟨h.row.later j b,(h.kids.keep (λg a=>b.block g a.2.1)).mono λg a=>⟨a.1,jg a.2.1 b.size,a.2.2⟩⟩
theorem bX.push{α:Type}{M R i:Nat}{t e:jq}{k:Nat}{f:α->hU->List hU}{body:α->LBy}{X:hU->Array hU}{w0 b j:hZ}{n m:Nat}{o a p:hU}{l:List α}{c:List hU}{x:α}(h:bX M R t e k f body X w0 b n o l c)(u:R<M)
 (v:ah (λg=>M<=g/\g<b.heap.size/\o.ownBlock≠A g) b p 1 (body x).length ((body x).map v8)) (q:aV M e k b j o a m (cB f l c++f x p)) (w:(X o).setIfInBounds i a=X a):
 bX M R t e k f body X w0 (j.setCell ⟨R,i,hF⟩ a) m a (l++[x]) (c++[p]):=by
 have y:c.length=l.length:=by have:=h.kids.len;rwa [jd]at this
 have z:cB f (l++[x]) (c++[p])=cB f l c++f x p:=by rw[zU f l [x] c [p] y];simp[cB]
 have B:(j.setCell ⟨R,i,hF⟩ a).heap.size=j.heap.size:=k6 _ _ _;have r:∀g,(M<=g/\g<b.heap.size/\o.ownBlock≠A g)->(j.setCell ⟨R,i,hF⟩ a).heap[g]?=b.heap[g]?:=λg d=>
  (fp _ Y).trans (q.grown.block g d.2.1 (λe=>d.2.2 e.symm))
 have s:∀g,(M<=g/\g<b.heap.size/\o.ownBlock≠A g)->(M<=g/\g<(j.setCell ⟨R,i,hF⟩ a).heap.size/\a.ownBlock≠A g):=λg d=>
  ⟨d.1,by rw[B];exact jg d.2.1 q.grown.size,q.ne d.2.1 d.2.2⟩
 refine⟨?_,?_⟩
 ·rw[z];exact h.row.push u q w
 rw[jX];exact bH.snoc (ah.mono (ah.keep v r) s) ((h.kids.keep r).mono s)
theorem bX.start{α:Type}{M R:Nat}{t e:jq}{k:Nat}{f:α->hU->List hU}{body:α->LBy}{X:hU->Array hU}{w:hZ}(a:w.heap[R]?=A (hK (X (T hF 0 0)) t (0,0)))(b:M<=w.heap.size):bX M R t e k f body X w w 0 (T hF 0 0) [] []:=
 ⟨⟨a,by simpa [cB]using j8 w M e k,aD.refl _ _ _,b⟩,rfl⟩
theorem bX.slice{α:Type}{M R:Nat}{t e:jq}{k:Nat}{f:α->hU->List hU}{body:α->LBy}{X:hU->Array hU}{w0 wr:hZ}{n:Nat}{c:hU}{l:List α}{a:List hU}(h:bX M R t e k f body X w0 wr n c l a)(i:n=l.length){D:Nat->Prop}(d:∀g,M<=g->g<wr.heap.size->D g):
 ∃a,ah D wr c k l.length (cB f l a)/\bH D wr (l.map body) a:=
 ⟨a,ah.of_own (by rw[<-i];exact h.row.own) (λg b=>by have:=h.row.own.lt g b;exact d g this.1 this.2),h.kids.mono λg b=>d g b.1 b.2.1⟩
theorem bytes_of_row{W:hZ}{g o:Nat}{b:Array hU}{t:jq}{l:LBy}{n:Nat}(c:W.heap[g]?=A (hK b t (0,0)))(d:∀(j:Nat) a,(l.map v8)[j]?=A a->b[o+j]?=A a)(e:l.length=n):BytesAt W (T (A ⟨g,o,hF⟩) n n) l:=by
 subst e;exact ah.bytes (D:=λ_=>True) ⟨by simp,A ⟨g,o,hF⟩,l.length,rfl,jc _,(λh=>by cases h),λ_=>⟨g,o,rfl,trivial,λj a f=>cell_of c (d j a f)⟩⟩
theorem Cg{W:hZ}{b i:Nat}{cs:Array hU}{t:jq}{x y:hU}(a:W.heap[b]?=A (hK cs t (0,0))):
 (W.setCells b i [x,y]).heap[b]?=A (hK ((cs.setIfInBounds i x).setIfInBounds (i+1) y) t (0,0))/\∀k,k≠b->(W.setCells b i [x,y]).heap[k]?=W.heap[k]?:=by
 have e:W.setCells b i [x,y]=(W.setCell ⟨b,i,hF⟩ x).setCell ⟨b,i+1,hF⟩ y:=rfl;rw[e];exact⟨lQ y (lQ x a),λk hk=>(fp _ hk).trans (fp _ hk)⟩
noncomputable def ln(g:Grp)(a x:Int)(b:List Chg):Int:=
 if 1099511627776<=g.epoch then 1 else if ci g a b≠0 then ci g a b else if x<1\/2305843009213688669<=x then 50 else if((aG 4 x.toNat:Nat):Int)≠dp g a b then 221 else 0
def KE(g:Grp)(a x:Int)(d:List Chg)(b init seed:LBy)(c:Int)(w:hZ)(e:jP)(w':hZ):Prop:=
 (c=0->∃q,e=ja (jB #[ic (aj (mkC g a x.toNat d b init seed) q).toArray,ic ((fD g b init).map v8).toArray,I N 0])/\az (λk=>w.heap.size<=k/\k<w'.heap.size) w' (mkC g a x.toNat d b init seed) q)/\
 (c≠0->e=ja (jB #[ic (aj dG eX).toArray,ic (dh.map v8).toArray,I N c]))/\ii w w w'
theorem pP{w:hZ}{g o:Nat}{a:Array hU}{t:jq}{xs:List hU}(b:w.heap[g]?=A (hK a t (0,0)))(c:∀(j:Nat) v,xs[j]?=A v->a[o+j]?=A v):w.rangeAt g o xs:=λj v d=>cell_of b (c j v d)
theorem Dq(k:LBy)(hk:k.length=32)(n i j:Nat)(c:i<n)(v:hU)(h:((bQ k i).map v8)[j]?=A v):(fy (fg k n))[i*32+j]?=A v:=by
 have d:j<32:=by
  have:=(j5.1 h).1;rw[jd,dY k hk]at this;exact this
 unfold fy fg;rw[List.map_map,<-qf];have g:∀x∈List.range n,((λk=>oo v8 k)∘bQ k) x=(bQ k x).map v8:=λ_ _=>rfl
 have e:∀(l:List Nat) (i:Nat) (x:Nat),l[i]?=A x->((l.map ((λk=>oo v8 k)∘bQ k)).flatten)[i*32+j]?=((bQ k x).map v8)[j]?:=by
  intro l
  induction l with
  |nil=>intro i x a;simp at a
  |cons y l f=>
   intro i x a;rw[jS,List.flatten_cons];have b:(((λk=>oo v8 k)∘bQ k) y).length=32:=by simp[dY k hk]
   rcases i with _|i
   ·have:y=x:=by simpa using a
    subst this;rw[Nat.zero_mul,ow,List.getElem?_append_left (by rw[b];exact d)]
    rfl
   rw[List.getElem?_append_right (by rw[b];omega),b,show(i+1)*32+j-32=i*32+j by omega];exact f i x (by simpa using a)
 rw[qf];exact(e (List.range n) i i (by simp[c])).trans h
theorem oJ(p:Option jw)(n c:Nat)(w:hZ):jb ih 18 #[T p n c] w λe w'=>e=ja (.bool (decide (n<=10)))/\ii w w w':=by
 by_cases h:n<=10
 ·have b:=ap ((n:Int)<=10)
  have a:=O (decide_eq_true h)
  go_enter func18,ntmps18
  go_wp2_with fail
  go_ret;exact⟨by rw[a];rfl,jM _ _⟩
 have b:=ar ((n:Int)<=10);have a:=O (decide_eq_false h)
 go_enter func18,ntmps18
 go_wp2_with fail
 go_ret;exact⟨by rw[a];rfl,jM _ _⟩
theorem IY(c:Cmt)(q:CQ)(w:hZ)(a:az (·<w.heap.size) w c q)(X:c.box.length<=maxLen)(l4:c.wel.length<=maxLen):
 jb ih 5 #[ic (aj c q).toArray] w λe w'=>(∃b,e=ja (.bool b)/\(b=true->vK c))/\ii w w w':=by
 have B:=cD.new w (q:=q) a.plen a.clen;have g:=af w (hK (aj c q).toArray 31);obtain⟨C,D,H⟩:=a.chg.form;obtain⟨pp,cp,K⟩:=a.path.form;obtain⟨pb,cb,i⟩:∃p E,q.vb=T p c.box.length E:=by obtain⟨us,h,-⟩:=a.box;exact h.form
 obtain⟨pw,cw,k⟩:∃p E,q.vw=T p c.wel.length E:=by obtain⟨us,h,-⟩:=a.wel;exact h.form
 obtain⟨-,-,-,F,d,f,n,-,-⟩:=B.at;rw[H]at F;rw[K]at d;rw[i]at f;rw[k]at n;have SU:=O a.box;have RA:=O a.wel;have Wq:=O i;have a3:=O k;obtain⟨u,m⟩:=J c.chg.length;obtain⟨np,o⟩:=J c.path.length;obtain⟨r,v⟩:=J c.box.length;obtain⟨s,x⟩:=J c.wel.length;rw[<-m]at F;rw[<-o]at d;rw[<-v]at f X Wq;rw[<-x]at n l4 a3;replace X:r<=9223372036854775807:=X;replace l4:s<=9223372036854775807:=l4;have WA:=O m;have a4:=O o;have Wm:=O v;have Tu:=O x;obtain⟨b,y⟩:=J w.heap.size;obtain⟨a5,M⟩:=J ((aj c q).toArray);rw[<-M]at g F d f n⊢;rw[<-y]at F d f n;obtain⟨W,z⟩:=J (w.alloc (hK a5 31));rw[<-z]at g F d f n;have P:=O z;have Q:=O y;have t:=O g;clear B g a H K i k m o v x y M z
 go_enter func5,ntmps5
 go_upto_region 1 with fail
 rw[<-P,<-Q];clear P Q
 go_wp2_with fail
 go_loopw [3] (λi wr=>∃k:Nat,i=I N k/\k<=r/\hH (∀x∈c.box.take k,x.body.length<=200)/\wr=W) (λi _=>r-(jo i).toNat)
 case atStart=>exact⟨0,rfl,jC _,O av,rfl⟩
 obtain⟨k,rfl,hk,a,H⟩:=hrel;rw[H];clear H
 by_cases aa:k<r
 case pos=>
  have ad:=ap ((k:Int)<(r:Int));have al:=ap (k<r);obtain⟨x,v,K⟩:=dS (l:=c.box) (j:=k) (by rw[<-Wm];exact aa);obtain⟨us,M,P⟩:=SU.out;obtain⟨ba,Q,R⟩:=P.at (i:=k) (b:=x.body) (by rw[jU,v];rfl);obtain⟨g,o,E,S,z⟩:=mu M (λ_ _=>rfl) v Q;rw[Wq]at S;injection S with e1 e2 e3
  subst e1;subst e3;obtain⟨px,cx,rfl⟩:=R.form;have Tf:=O K;obtain⟨m,B⟩:=J x.body.length;rw[<-B]at z;have d3:W.cell? ⟨g,o+k*4+3,hF⟩=A (T px m cx):=cell_below (z 3 _ rfl) t;have HM:=O B;clear z M P Q R v K e2 B
  by_cases U:200<m
  case pos=>
   have au:=ap ((200:Int)<(m:Int));have a1:=ap (200<m);clear U
   go_wp2_with fail
   go_ret;exact⟨⟨false,rfl,λh=>by cases h⟩,t⟩
  have au:=ar ((200:Int)<(m:Int));have a1:=ar (200<m);have a2:hH (∀y∈c.box.take (k+1),y.body.length<=200):=O (λy V=>by
   rw[Tf]at V
   rcases ol.1 V with h|h
   ·exact a y h
   obtain rfl:=qg.1 h;have:=HM.out
   omega)
  clear U a
  go_wp2_with fail
  exact⟨⟨k+1,by go_num,by omega,a2,by trivial⟩,by simp only[jo];omega⟩
 have ad:=ar ((k:Int)<(r:Int));have al:=ar (k<r);obtain rfl:r=k:=Y;have Sv:hH (∀x∈c.box,x.body.length<=200):=O (by have h:=a.out;rwa [Wm,qh]at h);clear a
 go_wp2_with fail
 go_loopw [4] (λi wr=>∃k:Nat,i=I N k/\k<=s/\hH (∀x∈c.wel.take k,x.body.length<=200)/\wr=W) (λi _=>s-(jo i).toNat)
 case atStart=>exact⟨0,rfl,jC _,O av,rfl⟩
 obtain⟨k,rfl,hk,a,H⟩:=hrel;rw[H];clear H
 by_cases aa:k<s
 case pos=>
  have ad:=ap ((k:Int)<(s:Int));have al:=ap (k<s);obtain⟨x,v,K⟩:=dS (l:=c.wel) (j:=k) (by rw[<-Tu];exact aa);obtain⟨us,M,P⟩:=RA.out;obtain⟨ba,Q,R⟩:=P.at (i:=k) (b:=x.body) (by rw[jU,v];rfl);obtain⟨g,o,E,S,z⟩:=mu M (λ_ _=>rfl) v Q;rw[a3]at S;injection S with e1 e2 e3
  subst e1;subst e3;obtain⟨px,cx,rfl⟩:=R.form;have Tf:=O K;obtain⟨m,B⟩:=J x.body.length;rw[<-B]at z;have d3:W.cell? ⟨g,o+k*3+2,hF⟩=A (T px m cx):=cell_below (z 2 _ rfl) t;have HM:=O B;clear z M P Q R v K e2 B
  by_cases U:200<m
  case pos=>
   have au:=ap ((200:Int)<(m:Int));have a1:=ap (200<m);clear U
   go_wp2_with fail
   go_ret;exact⟨⟨false,rfl,λh=>by cases h⟩,t⟩
  have au:=ar ((200:Int)<(m:Int));have a1:=ar (200<m);have a2:hH (∀y∈c.wel.take (k+1),y.body.length<=200):=O (λy V=>by
   rw[Tf]at V
   rcases ol.1 V with h|h
   ·exact a y h
   obtain rfl:=qg.1 h;have:=HM.out
   omega)
  clear U a
  go_wp2_with fail
  exact⟨⟨k+1,by go_num,by omega,a2,by trivial⟩,by simp only[jo];omega⟩
 have ad:=ar ((k:Int)<(s:Int));have al:=ar (k<s);obtain rfl:s=k:=Y;have v:hH (∀x∈c.wel,x.body.length<=200):=O (by have h:=a.out;rwa [Tu,qh]at h);clear a
 by_cases m:u<=10
 case neg=>
  have i:hH (decide (u<=10)=false):=O (decide_eq_false m);clear m
  go_wp2_with fail
  refine(oJ C u D _).mono ?_;rintro e o ⟨rfl,a⟩;have g:=ac t a;clear a;rw[i]
  go_wp2_with fail
  go_ret;exact⟨⟨false,rfl,λh=>by cases h⟩,g⟩
 have i:hH (decide (u<=10)=true):=O (decide_eq_true m);have x:=O m;clear m
 by_cases m:np<=12
 case neg=>
  have y:=ar ((np:Int)<=12);clear m
  go_wp2_with fail
  refine(oJ C u D _).mono ?_;rintro e o ⟨rfl,a⟩;have g:=ac t a;rw[i];replace d:=cell_below d a;replace f:=cell_below f a;replace n:=cell_below n a;clear a
  go_wp2_with fail
  go_ret;exact⟨⟨false,rfl,λh=>by cases h⟩,g⟩
 have y:=ap ((np:Int)<=12);have z:=O m;clear m
 by_cases m:r<=40
 case neg=>
  have B:=ar ((r:Int)<=40);clear m
  go_wp2_with fail
  refine(oJ C u D _).mono ?_;rintro e o ⟨rfl,a⟩;have g:=ac t a;rw[i];replace d:=cell_below d a;replace f:=cell_below f a;replace n:=cell_below n a;clear a
  go_wp2_with fail
  go_ret;exact⟨⟨false,rfl,λh=>by cases h⟩,g⟩
 have B:=ap ((r:Int)<=40);have H:=O m;clear m
 by_cases m:s<=10
 case neg=>
  have K:=ar ((s:Int)<=10);clear m
  go_wp2_with fail
  refine(oJ C u D _).mono ?_;rintro e o ⟨rfl,a⟩;have g:=ac t a;rw[i];replace d:=cell_below d a;replace f:=cell_below f a;replace n:=cell_below n a;clear a
  go_wp2_with fail
  go_ret;exact⟨⟨false,rfl,λh=>by cases h⟩,g⟩
 have K:=ap ((s:Int)<=10);have M:=O m;clear m
 go_wp2_with fail
 refine(oJ C u D _).mono ?_;rintro e o ⟨rfl,a⟩;have g:=ac t a;rw[i];replace d:=cell_below d a;replace f:=cell_below f a;replace n:=cell_below n a;clear a
 go_wp2_with fail
 go_ret;exact⟨⟨true,rfl,λ_=>⟨Sv,v,by rw[<-WA];exact x,by rw[<-a4];exact z,by rw[<-Wm];exact H,by rw[<-Tu];exact M⟩⟩,g⟩
theorem Cc{P:Program}{b:Array jJ}{c:Exit->Act->hZ->Prop}{S:hZ->Prop}{t:Sch}{a:Act}{w:hZ}(r:Sch){d:Nat->Nat->Act}{e:Nat->Nat->hZ->Prop}(f:∀x y w,e x y w->dK P b c S r (d x y) w)(h:(∀x y w,e x y w->dK P b c S r (d x y) w)->dK P b c S t a w):dK P b c S t a w:=h f
theorem m6{a:Act}{o:jJ}{x:jY}{c:jq}{d:TypeDesc}{b f:Nat}{cs:List hU}{e:hZ}(g:ih.underlying c=A d)(h:d.isRow=true)(i:(ih.info? c).map (·.size)=A cs.length)(j:o.op=.load c x)(k:a.eval x=ji (A ⟨b,f,hF⟩))(l:e.rangeAt b f cs):
 (jK a.eval o).run ih e=.ok (.value (ic cs.toArray)) e:=oY o a c x j b f k cs d l g h i
theorem Hf{a:Act}{o:jJ}{d:Array (Nat×jY)}{f e au:Int}{b:Array hU}{p:Option jw}{n c:Nat}(g:b.size=32)(h:o.op=.build 31 d)(j:(d.map fun(i,x)=>(i,a.eval x))= #[(0,I N f),(1,I N e),(2,ic b),(3,I N au),(4,T p n c)])(W:hZ):
 (jK a.eval o).run ih W=.ok (.value (ic (#[I N f,I N e]++b++ #[I N au,T p n c,T hF 0 0,T hF 0 0,T hF 0 0]++(dh.map v8).toArray++ #[I N 0,I N 0]))) W:=by
 simp only[jK,h,j,Sem.run_bind,G6 f e au b g p n c,Result.andThen_ok,Sem.run_pure]
theorem JO{a:Act}{o:jJ}(b:o.op=.build 55 #[])(W:hZ):
 (jK a.eval o).run ih W=.ok (.value (ic (dh.map v8).toArray)) W:=by
 simp only[jK,b,o4,lo,Sem.run_bind,J5,Result.andThen_ok,Sem.run_pure]
theorem MO{g:Grp}{a:Int}{c:List Chg}{d:LBy}{W w0:hZ}{n M o R i:Nat}{X:hU->Array hU}{j e k:hU}{f:List Bx}{p:List hU}(b:g.last.length=32)(l:W.ownsRow n 59 5 j c.length (c.flatMap Chg.cells))(m:W.ownsRow M 3 1 e 10 ((dl d).map (jF .i64)))(q:bX o R 31 73 4 Bx.cells Bx.body X w0 W i k f p)(r:i=f.length):az (·<W.heap.size) W {mk0 g a c d with box:=f} ⟨j,e,k,T hF 0 0⟩:=by
 refine⟨ah.of_own l (λg b=>(l.lt g b).2),?_,q.slice r (λg _ b=>b),⟨[],⟨rfl,hF,0,rfl,jc _,λ_=>rfl,λh=>absurd h (Nat.lt_irrefl 0)⟩,rfl⟩,b,du⟩;have h:=ah.of_own (D:=(·<W.heap.size)) m (λg b=>(m.lt g b).2);show ah _ W e 1 (dl d).length _;rw[iJ];exact h
def iw(D:Nat->Prop)(W:hZ)(v:hU)(l:List Bx):Prop:=∃a,ah D W v 4 l.length (cB Bx.cells l a)/\bH D W (l.map Bx.body) a
theorem iw.keep{D D':Nat->Prop}{w w':hZ}{v:hU}{l:List Bx}(h:iw D w v l)(hk:∀g,D g->w'.heap[g]?=w.heap[g]?)(a:∀g,D g->D' g):iw D' w' v l:=by
 obtain⟨b,c,d⟩:=h;exact⟨b,(c.keep hk).mono a,(d.keep hk).mono a⟩
theorem iw.below{w w':hZ}{v:hU}{l:List Bx}(h:iw (·<w.heap.size) w v l)(b:ii w w w'):iw (·<w'.heap.size) w' v l:=h.keep (λg a=>b.block g a) (λg a=>jg a b.size)
theorem M9{g:Grp}{a:Int}{c:List Chg}{d:LBy}{W w0:hZ}{p M q R i:Nat}{X:hU->Array hU}{j e k l:hU}{m:List Bx}{f:List Wl}{r:List hU}(b:g.last.length=32)(n:W.ownsRow p 59 5 j c.length (c.flatMap Chg.cells))(o:W.ownsRow M 3 1 e 10 ((dl d).map (jF .i64)))(s:iw (·<W.heap.size) W k m)(t:bX q R 31 75 3 Wl.cells Wl.body X w0 W i l f r)(u:i=f.length):az (·<W.heap.size) W {mk0 g a c d with box:=m,wel:=f} ⟨j,e,k,l⟩:=by
 refine⟨ah.of_own n (λg b=>(n.lt g b).2),?_,s,t.slice u (λg _ b=>b),b,du⟩;have h:=ah.of_own (D:=(·<W.heap.size)) o (λg b=>(o.lt g b).2);show ah _ W e 1 (dl d).length _;rw[iJ];exact h
theorem MK{w w':hZ}{v:hU}{l:List Chg}(h:EC.At w v l)(hk:∀(g o:Nat) (x:Int),w.cell? ⟨g,o,hF⟩=A (I N x)->w'.cell? ⟨g,o,hF⟩=A (I N x)):EC.At w' v l:=by
 obtain⟨i,p,c,e,k,m,n⟩:=h;refine⟨i,p,c,e,k,m,λq=>?_⟩;obtain⟨g,o,ep,r⟩:=n q;refine⟨g,o,ep,λj a b=>?_⟩;have s:=r j a b;have t:∃x,a=I N x:=by
  have d:=lv b;unfold EK.flat at d;obtain⟨y,-,u⟩:=List.mem_flatMap.1 d;have f:a∈Chg.cells y:=u;simp only[Chg.cells,jT,qc,or_false]at f
  rcases f with rfl|rfl|rfl|rfl|rfl<;>exact⟨_,rfl⟩
 obtain⟨x,rfl⟩:=t;exact hk _ _ _ s
theorem Lk{w w':hZ}{v:hU}{l:List Chg}{b j:Nat}{X d:Array hU}{e:jq}(h:EC.At w v l)(f:w.heap[b]?=A (hK X e (0,0)))(g:w'.heap[b]?=A (hK d e (0,0)))(hk:∀k,k<w.heap.size->k≠b->w'.heap[k]?=w.heap[k]?)
 (k:∀i,i≠j->d[i]?=X[i]?) (a:∃p n c,X[j]?=A (T p n c)):EC.At w' v l:=by
 obtain⟨p,n,c,a⟩:=a;exact MK h (rR f g k a hk)
theorem Gh{g:Grp}{a:Int}{b:List Chg}{c init seed:LBy}{W:hZ}{D:Nat->Prop}{j M:Nat}{l e m n:hU}(d:g.last.length=32)(f:W.ownsRow j 59 5 l b.length (b.flatMap Chg.cells))(i:W.ownsRow M 3 1 e 10 ((dl c).map (jF .i64)))
 (o:iw D W m ((dF (aJ g.tree b) a).map (dV g a b c seed))) (p:∃h,ah D W n 3 ((di a b).map (fB g a b c init seed)).length (cB Wl.cells ((di a b).map (fB g a b c init seed)) h)/\bH D W (((di a b).map (fB g a b c init seed)).map Wl.body) h)
 (q:∀k,j<=k->k<W.heap.size->D k) (r:∀k,M<=k->k<W.heap.size->D k):az D W (mk1 g a b c init seed) ⟨l,e,m,n⟩:=by
 refine⟨ah.of_own f (λg d=>q g (f.lt g d).1 (f.lt g d).2),?_,o,p,d,du⟩;have h:=ah.of_own (D:=D) i (λg d=>r g (i.lt g d).1 (i.lt g d).2);show ah _ W e 1 (dl c).length _;rw[iJ];exact h
theorem az.conf{D:Nat->Prop}{W:hZ}{c:Cmt}{q:CQ}(h:az D W c q){k:LBy}(hk:k.length=32):az D W {c with confirm:=k} q:=⟨h.chg,h.path,h.box,h.wel,h.plen,hk⟩
theorem az.rs{D:Nat->Prop}{W:hZ}{c:Cmt}{q:CQ}(h:az D W c q)(r s:Int):az D W {c with r:=r,s:=s} q:=⟨h.chg,h.path,h.box,h.wel,h.plen,h.clen⟩
theorem Av{g:Grp}{a:Int}{b:List Chg}{c init seed:LBy}{W:hZ}{D:Nat->Prop}{q:CQ}(h:az D W (mk1 g a b c init seed) q):az D W (mk2 g a b c init seed) q:=by
 unfold mk2;exact h.conf (oM _ _)
theorem Mz{g:Grp}{a:Int}{x:Nat}{b:List Chg}{c init seed:LBy}{W:hZ}{D:Nat->Prop}{q:CQ}(h:az D W (mk1 g a b c init seed) q):az D W (mkC g a x b c init seed) q:=by
 unfold mkC;exact(Av h).rs _ _
theorem az.later{c:Cmt}{q:CQ}{n:Nat}{w w':hZ}(h:az (λk=>n<=k/\k<w.heap.size) w c q)(b:ii w w w'):az (λk=>n<=k/\k<w'.heap.size) w' c q:=
 (h.keep λg a=>b.block g a.2).mono λg a=>⟨a.1,jg a.2 b.size⟩
def kQ(cs:Array hU):Nat->List hU->Array hU
 |_,[]=>cs
 |o,v::a=>kQ (cs.setIfInBounds o v) (o+1) a
theorem yA:∀(d a c b:List hU),c.length=d.length->kQ (a++c++b).toArray a.length d=(a++d++b).toArray
 |[],a,c,b,h=>by
  obtain rfl:c=[]:=qi h
  rfl
 |v::d,a,[],b,h=>by simp at h
 |v::d,a,x::c,b,h=>by
  have e:(a++x::c++b).toArray.setIfInBounds a.length v=((a++[v])++c++b).toArray:=by
   apply km
   rw[kn];show kw (a++x::c++b) a.length v=_;rw[oj,jZ _ _ (jc _),Nat.sub_self];simp
  rw[kQ,e];have f:=yA d (a++[v]) c b (by simpa using h);rw[jz]at f;have g:kQ ((a++[v])++c++b).toArray (a.length+1) d=(a++[v]++d++b).toArray:=f;rw[g];simp
theorem ut{b:Nat}{t:jq}:∀(a:List hU) (o:Nat) (W:hZ) (cs:Array hU),W.heap[b]?=A (hK cs t (0,0))->(W.setCells b o a).heap[b]?=A (hK (kQ cs o a) t (0,0))
 |[],o,W,cs,h=>h
 |v::a,o,W,cs,h=>ut a (o+1) _ _ (lQ v h)
theorem rf{b k:Nat}(hk:k≠b):∀(a:List hU) (o:Nat) (W:hZ),(W.setCells b o a).heap[k]?=W.heap[k]?
 |[],o,W=>rfl
 |v::a,o,W=>(rf hk a (o+1) (W.setCell ⟨b,o,hF⟩ v)).trans (fp v hk)
theorem setCells_size(b:Nat):∀(a:List hU) (o:Nat) (W:hZ),(W.setCells b o a).heap.size=W.heap.size
 |[],o,W=>rfl
 |v::a,o,W=>(setCells_size b a (o+1) (W.setCell ⟨b,o,hF⟩ v)).trans (k6 _ _ _)
theorem JJ(c:Cmt)(q:CQ)(k:LBy)(a:c.parent.length=32)(b:c.confirm.length=32)(d:k.length=32):kQ (aj c q).toArray 39 (k.map v8)=(aj {c with confirm:=k} q).toArray:=by
 have e:∀x:LBy,aj {c with confirm:=x} q=(I N c.folder::I N c.epoch::(c.parent.map v8++[I N c.author,q.vc,q.vp,q.vb,q.vw]))++x.map v8++[I N c.r,I N c.s]:=λx=>by simp[aj]
 have h:=yA (k.map v8) (I N c.folder::I N c.epoch::(c.parent.map v8++[I N c.author,q.vc,q.vp,q.vb,q.vw])) (c.confirm.map v8) [I N c.r,I N c.s] (by simp[b,d]);have f:(jF .i64 c.folder::I N c.epoch::(c.parent.map v8++[I N c.author,q.vc,q.vp,q.vb,q.vw])).length=39:=by simp[a]
 rw[f,<-e,<-e]at h;exact h
theorem Ow(c:Cmt)(q:CQ)(r s:Int)(a:c.parent.length=32)(b:c.confirm.length=32):kQ (aj c q).toArray 71 [I N r,I N s]=(aj {c with r:=r,s:=s} q).toArray:=by
 have e:∀x y:Int,aj {c with r:=x,s:=y} q=(I N c.folder::I N c.epoch::(c.parent.map v8++([I N c.author,q.vc,q.vp,q.vb,q.vw]++c.confirm.map v8)))++[I N x,I N y]++[]:=λx y=>by simp[aj]
 have h:=yA [I N r,I N s] (I N c.folder::I N c.epoch::(c.parent.map v8++([I N c.author,q.vc,q.vp,q.vb,q.vw]++c.confirm.map v8))) [I N c.r,I N c.s] [] rfl;have d:(jF .i64 c.folder::I N c.epoch::(c.parent.map v8++([I N c.author,q.vc,q.vp,q.vb,q.vw]++c.confirm.map v8))).length=71:=by simp[a,b]
 rw[d,<-e,<-e]at h;exact h
theorem fh.conf{c:Cmt}(h:fh c){k:LBy}(hk:k.length=32):fh {c with confirm:=k}:=⟨h.ints,h.plen,hk,h.chg,h.path,h.box,h.wel⟩
theorem fh.rs{c:Cmt}(h:fh c){r s:Int}(a:IR r)(b:IR s):fh {c with r:=r,s:=s}:=⟨⟨h.ints.1,h.ints.2.1,h.ints.2.2.1,a,b⟩,h.plen,h.clen,h.chg,h.path,h.box,h.wel⟩
theorem KG(c:Cmt)(x y:Int)(l:c.r=0)(m:c.s=0):({({c with r:=x,s:=y}:Cmt)with r:=0,s:=0}:Cmt)=c:=by
 obtain⟨a,b,c,d,e,f,g,h,i,j,k⟩:=c;obtain rfl:j=0:=l;obtain rfl:k=0:=m
 rfl
theorem F9(c:Cmt)(x:LBy)(l:c.confirm=dh):({({c with confirm:=x}:Cmt)with confirm:=dh}:Cmt)=c:=by
 obtain⟨a,b,c,d,e,f,g,h,i,j,k⟩:=c;obtain rfl:i=dh:=l
 rfl
theorem Of(g:Grp)(a:Int)(b:List Chg)(c init seed:LBy)(q:CQ):aj (mk1 g a b c init seed) q=aj (mk0 g a b c) q:=by simp only[aj,mk1,mk0]
theorem l9(g:Grp)(a:Int)(b:List Chg)(c init seed:LBy):(mk1 g a b c init seed).parent=g.last/\(mk1 g a b c init seed).confirm.length=32:=by
 unfold mk1;exact⟨rfl,du⟩
theorem zX(g:Grp)(a:Int)(c:List Chg)(b init seed:LBy):mk2 g a c b init seed={mk1 g a c b init seed with confirm:=pk (fD g b init) (cM rO ((aA (mk1 g a c b init seed)).take 8))}:=by unfold mk2;rfl
theorem C7(g:Grp)(a:Int)(x:Nat)(b:List Chg)(c init seed:LBy):mkC g a x b c init seed={mk2 g a b c init seed with r:=((kG x (dk (mk2 g a b c init seed)):Nat):Int),s:=((kZ x (dk (mk2 g a b c init seed)):Nat):Int)}:=by unfold mkC;rfl
theorem yO(c:Cmt)(k:LBy):({c with confirm:=k}:Cmt).confirm=k/\({c with confirm:=k}:Cmt).parent=c.parent:=⟨rfl,rfl⟩
theorem mW(g:Grp)(a:Int)(b:List Chg)(c init seed:LBy):(mk2 g a b c init seed).parent=g.last/\(mk2 g a b c init seed).confirm.length=32:=by
 rw[zX,(yO _ _).1,(yO _ _).2];exact⟨(l9 ..).1,oM _ _⟩
theorem Cx(c:Cmt)(r s:Int):({c with r:=r,s:=s}:Cmt).confirm=c.confirm/\({c with r:=r,s:=s}:Cmt).parent=c.parent:=⟨rfl,rfl⟩
theorem yD(g:Grp)(a:Int)(x:Nat)(b:List Chg)(c init seed:LBy):(mkC g a x b c init seed).parent=g.last/\(mkC g a x b c init seed).confirm.length=32:=by
 rw[C7,(Cx _ _ _).1,(Cx _ _ _).2];exact mW ..
theorem IC{g:Grp}{a:Int}{x:Nat}{b:List Chg}{c init seed:LBy}(h:fh (mkC g a x b c init seed)):fh (mk1 g a b c init seed)/\fh (mk2 g a b c init seed):=by
 have z:IR 0:=⟨by decide,by decide⟩;have e:fh (mk2 g a b c init seed):=by
  have d:=h.rs z z;unfold mkC at d;rw[KG _ _ _ rfl rfl]at d;exact d
 have d:=e.conf du;unfold mk2 at d;rw[F9 _ _ rfl]at d;exact⟨d,e⟩
theorem sG{p q:Prop}(k:q)(h:q->p:=by intro k;refine ay (v:=?_) rfl ag (λW' hS=>?_) ?_;rotate_left;(have b0:=cell_of (i:=1) hS.1 rfl;have b1:=cell_of (i:=2) hS.1 rfl;clear hS;go_simp;with_reducible rfl);refine L ?_;exact k):p:=h k
theorem Du(g:Grp)(vm vt vl:hU)(a x:Int)(m:List Chg)(z init seed:LBy)(w:hZ)(h:cS w g vm vt)(ad:ah (·<w.heap.size) w vl 5 m.length (m.flatMap Chg.cells))
 (a3:z.length=32) (a5:init.length=32) (ds:seed.length=32) (hT:iB w) (U:fL w) (bf:g.mem.length<=900000) (bg:g.tree.length<=600000) (D:m.length<=1000000):
 jb ih 12 #[ic (aB g vm vt).toArray,I N a,I N x,vl,ic (z.map v8).toArray,ic (init.map v8).toArray,ic (seed.map v8).toArray] w (KE g a x m z init seed (ln g a x m) w):=by
 obtain⟨er,ZX⟩:=J (ln g a x m);rw[<-ZX];have Zv:=O ZX;have ba:=mC (vm:=vm) (vt:=vt) h.llen;have Qb:=lx (vm:=vm) (vt:=vt) h.llen;have bb:∀(w:hZ) (b:Nat),w.heap[b]?=A (hK (aB g vm vt).toArray 54 (0,0))->w.rangeAt b 2 (g.last.map v8):=λw b hb=>de.last ⟨hb,h.llen⟩
 have HN:hH (∀W,cS W g vm vt->EC.At W vl m->jb ih 15 #[ic (aB g vm vt).toArray,I N a,vl] W λe w'=>∃aa,e=ja (jB #[aa,I N (ci g a m)])/\w'.ownsRow W 73 4 aa (dc g a m).length (EB0.flat (dc g a m))/\ii W W w'):=O (λW hW hL=>sS g vm vt _ _ _ W hW hL Y Y D);have ed:hH (∀W,cG g->dD m->eS g a m->cS W g vm vt->EC.At W vl m->jb ih 38 #[ic (aB g vm vt).toArray,I N a,vl] W λe w'=>e=ja (I N (dp g a m))/\ii W W w'):=O (λW hv hf hp hW hL=>CK g vm vt _ _ _ W hW (rJ hv) Y hL (λhn=>by
  have c:=hp.own;rw[hn]at c;obtain⟨x,r,h1,-⟩:=hp.first (by have:=hv.ep.1;have h2:=of_decide_eq_false c.symm;omega);rw[h1];simp))
 have Un:hH (∀W,dD m->cS W g vm vt->EC.At W vl m->jb ih 41 #[ic (aB g vm vt).toArray,vl] W λe w'=>∃aa,e=ja (ic #[aa])/\aT w' aa (aJ g.tree m)/\ii W W w'):=O (λW hf hW hL=>tW g vm vt _ _ W hW hf Y hL);obtain⟨al,M⟩:=J ((aB g vm vt).toArray);obtain⟨Pi,hL⟩:=J ((z.map v8).toArray);obtain⟨a4,Q⟩:=J ((init.map v8).toArray);obtain⟨S,X⟩:=J ((seed.map v8).toArray);have c:∀(l:LBy),l.length=32->(ih.info? 55).map (·.size)=A (l.map v8).toArray.size:=λl D=>by rw[jl,jd,D];kernel_rfl
 have Sa:hH ((ih.info? 55).map (·.size)=A Pi.size):=O (by rw[hL];exact c _ a3);have hz:hH ((ih.info? 55).map (·.size)=A a4.size):=O (by rw[Q];exact c _ a5);have e7:hH ((ih.info? 55).map (·.size)=A S.size):=O (by rw[X];exact c _ ds);rw[<-M]at ba HN ed Un bb⊢;rw[<-hL,<-Q,<-X];clear c;obtain⟨x0,k⟩:=J (((((((w.alloc (hK al 54)).alloc (hK Pi 55)).alloc (hK a4 55)).alloc (hK S 55)).alloc (hK Tryz.zeroCells31 31)).alloc (hK aI 55)));obtain⟨t,hG⟩:=J w.heap.size;have i:=je w (hK al 54);have c:=af w (hK al 54);have a1:=je (w.alloc (hK al 54)) (hK Pi 55);have d:=af (w.alloc (hK al 54)) (hK Pi 55);have Qe:=je ((w.alloc (hK al 54)).alloc (hK Pi 55)) (hK a4 55);have j:=af ((w.alloc (hK al 54)).alloc (hK Pi 55)) (hK a4 55);have o:=je (((w.alloc (hK al 54)).alloc (hK Pi 55)).alloc (hK a4 55)) (hK S 55);have q:=af (((w.alloc (hK al 54)).alloc (hK Pi 55)).alloc (hK a4 55)) (hK S 55);have C:=je ((((w.alloc (hK al 54)).alloc (hK Pi 55)).alloc (hK a4 55)).alloc (hK S 55)) (hK Tryz.zeroCells31 31);have s:=af ((((w.alloc (hK al 54)).alloc (hK Pi 55)).alloc (hK a4 55)).alloc (hK S 55)) (hK Tryz.zeroCells31 31);have cc:=je (((((w.alloc (hK al 54)).alloc (hK Pi 55)).alloc (hK a4 55)).alloc (hK S 55)).alloc (hK Tryz.zeroCells31 31)) (hK aI 55);have v:=af (((((w.alloc (hK al 54)).alloc (hK Pi 55)).alloc (hK a4 55)).alloc (hK S 55)).alloc (hK Tryz.zeroCells31 31)) (hK aI 55);replace i:=ak i d;replace i:=ak i j;replace i:=ak i q;replace i:=ak i s;replace i:=ak i v;rw[jm]at a1;replace a1:=ak a1 j;replace a1:=ak a1 q;replace a1:=ak a1 s;replace a1:=ak a1 v;rw[jm,jm]at Qe;replace Qe:=ak Qe q;replace Qe:=ak Qe s;replace Qe:=ak Qe v;rw[jm,jm,jm]at o;replace o:=ak o s;replace o:=ak o v;rw[jm,jm,jm,jm]at C;replace C:=ak C v;rw[jm,jm,jm,jm,jm]at cc;have hB:=(((((c).trans (d.mono (c).size)).trans (j.mono ((c).trans (d.mono (c).size)).size)).trans (q.mono (((c).trans (d.mono (c).size)).trans (j.mono ((c).trans (d.mono (c).size)).size)).size)).trans (s.mono ((((c).trans (d.mono (c).size)).trans (j.mono ((c).trans (d.mono (c).size)).size)).trans (q.mono (((c).trans (d.mono (c).size)).trans (j.mono ((c).trans (d.mono (c).size)).size)).size)).size)).trans (v.mono (((((c).trans (d.mono (c).size)).trans (j.mono ((c).trans (d.mono (c).size)).size)).trans (q.mono (((c).trans (d.mono (c).size)).trans (j.mono ((c).trans (d.mono (c).size)).size)).size)).trans (s.mono ((((c).trans (d.mono (c).size)).trans (j.mono ((c).trans (d.mono (c).size)).size)).trans (q.mono (((c).trans (d.mono (c).size)).trans (j.mono ((c).trans (d.mono (c).size)).size)).size)).size)).size);rw[<-k]at hB;rw[<-k,<-hG]at i;rw[<-k,<-hG]at a1;rw[<-k,<-hG]at Qe;rw[<-k,<-hG]at o;rw[<-k,<-hG]at C;rw[<-k,<-hG]at cc;have Qc:=O i;have Wo:=O a1;have a2:=O Qe;have Qv:=O o;have P:=O C;have H:=O cc;have V:=O hB;have HW:=O k;have HG:=O hG;have eg:=O h;have Ws:=O ad;obtain⟨Pd,F⟩:∃y:Array hU,y=Tryz.zeroCells31:=⟨_,rfl⟩;obtain⟨K,u⟩:∃y:Array hU,y=aI:=⟨_,rfl⟩;have U7:hH ((aj dG eX).toArray=Pd):=O (by rw[F];rfl);have Yg:hH ((dh.map v8).toArray=K):=O (by rw[u];rfl);have Py:hH ((ih.info? 31).map (·.size)=A Pd.size):=O (by rw[F];kernel_rfl);have WX:hH ((ih.info? 55).map (·.size)=A K.size):=O (by rw[u];kernel_rfl);have Wu:hH (Pd.all (·.oneCell')=true):=O (by rw[F];kernel_rfl);have Ri:hH (K.all (·.oneCell')=true):=O (by rw[u];kernel_rfl);replace P:hH (x0.heap[(t+1+1+1+1)]?=A (hK Pd 31 (0,0))):=O (by rw[F];exact P);replace H:hH (x0.heap[(t+1+1+1+1+1)]?=A (hK K 55 (0,0))):=O (by rw[u];exact H);have SG:=O ba;have g2:=O bb;have e8:=O hT;have Qa:=O U;have WP:=O bf;have SI:=O bg;have dv:=O D;have QC:=O a3;have TB:=O a5;have e9:=O ds;have RI:=O h.llen;have YJ:hH (al[0]?=A (I N g.folder)/\al[1]?=A (I N g.epoch)):=O (by rw[M];have:=Qb;exact⟨by simpa using this.1,by simpa using this.2.1⟩);have Sc:=O M;have g3:=O hL;have fe:=O Q;have fm:=O X;obtain⟨pc,nc,R,T7⟩:∃p n c',vl=T p n c':=by obtain⟨p,c',h⟩:=ad.form;exact⟨p,_,c',h⟩
 subst T7;obtain⟨ep,bc⟩:=J g.epoch;obtain⟨fd,UM⟩:=J g.folder;rw[<-bc,<-UM]at YJ;have RE:=O bc;have g4:=O UM;have WA:=O (tX g a m);obtain⟨ne,bd⟩:=J (ci g a m);rw[<-bd]at HN WA;have cd:=O bd;clear h ad a3 a5 ds hT U bf bg D ZX ba Qb bb M hL Q X F u bc UM bd;clear hB k hG i c a1 d Qe j o q C s cc v
 go_enter func12,ntmps12
 go_upto_region 1 with fail
 rw[<-HW,<-HG];have ce:hH ((t+1+1+1+1+1)<x0.heap.size):=O (jf.1 H).1;have k:=cell_of Qc YJ.2
 by_cases h1:1099511627776<=ep
 case pos=>
  have fo:decide (1099511627776<=ep)=true:=by simpa using h1
  have c:hH (er=1):=O (by rw[Zv];unfold ln;rw[if_pos (by rw[<-RE];exact h1)]);clear h1
  go_upto_region 2 with fail
  refine ju ?_;refine aY (λF=>F.heap[(t+1+1+1+1)]?=A (hK Pd 31 (0,0))/\F.heap[(t+1+1+1+1+1)]?=A (hK K 55 (0,0))) (.take 0 (.take 1 (.one 2 (.one 3 (.take 4 .done))))) ae ae ae G (λ_ _ _ _ h=>h) ⟨P,H⟩ ?_;obtain⟨e0,Pe⟩:=J x0.drew;have d:=aQ x0;rw[<-Pe]at d⊢;have RG:=Z P d;have RH:=Z H d;have QZ:=ac V d;clear d Pe P H V;have P:=RG;clear RG;have H:=RH;clear RH;have V:=QZ;clear QZ
  (refine ay (v:=ic Pd) rfl ag (λF U=>bJ jv rfl Py rfl rfl U.1) ?_;refine L ?_)
  (refine ay (v:=ic K) rfl ag (λF U=>bJ jr rfl WX rfl rfl U.2) ?_;refine L ?_)
  refine ai rfl (λK' u=>?_);rw[if_pos ag];refine jj 31 _ _ rfl (t+1+1+1+1) Pd rfl rfl 31 _ P.out Py rfl Wu ?_;rw[dq P];refine u _ _ ⟨P,H⟩ λ_=>?_
  clear u;refine L ?_;refine ai rfl (λK' u=>?_);rw[if_pos ag];refine jj 55 _ _ rfl (t+1+1+1+1+1) K rfl rfl 55 _ H.out WX rfl Ri ?_;rw[dq H];refine u _ _ ⟨P,H⟩ λ_=>?_
  clear u;refine L ?_;refine aC ?_;refine jt ?_
  go_wp2_with fail
  exact jE (nN rfl _ _ (t+1+1+1+1) (t+1+1+1+1+1) 31 55 Pd K (0,0) (0,0) _ _ rfl rfl P H jv rfl Py jr rfl WX) rfl ⟨λh=>absurd (c.symm.trans h) G,λ_=>by rw[U7,Yg,c];kernel_rfl,V⟩
 have fo:decide (1099511627776<=ep)=false:=by simpa using h1
 have g5:ep<1099511627776:=Y;have i:hH (er=if ci g a m≠0 then ci g a m else if x<1\/2305843009213688669<=x then 50 else if((aG 4 x.toNat:Nat):Int)≠dp g a m then 221 else 0):=O (by rw[Zv];unfold ln;rw[if_neg (by rw[<-RE];exact h1)]);clear h1
 go_upto_region 3 with fail
 clear fo k;refine jG ?_;refine jy rfl 54 _ rfl t rfl 54 al (0,0) _ Qc.out pz rfl SG ?_
 go_wp2_with fail
 refine(HN x0 (eg.below V) ((EK.At.of_sl (E:=EC) Ws).below V)).mono ?_;rintro e x1 ⟨aa,rfl,hu,d⟩;have q:=O hu;clear hu;have s:=Z Qc d;have U2:=Z Wo d;have PV:=Z a2 d;have PR:=Z Qv d;have Pp:=Z P d;have Pr:=Z H d;have OZ:=ac V d;clear Qc Wo a2 Qv P H V;clear d;obtain⟨pu,g6,rfl⟩:=aL q;obtain⟨nu,j⟩:=J ((dc g a m).length);rw[<-j]at q⊢;have Zr:=O j;clear j
 rcases WA.out with⟨-,C⟩|⟨-,-,C⟩|⟨hv,hf,hp,C⟩
 case inl=>
  have c:hH (er=1):=O (by rw[i,<-cd,C];rfl);subst C;clear q
  go_upto_region 5 with fail
  refine ju ?_;refine aY (λF=>F.heap[(t+1+1+1+1)]?=A (hK Pd 31 (0,0))/\F.heap[(t+1+1+1+1+1)]?=A (hK K 55 (0,0))) (.take 0 (.take 1 (.take 2 (.one 3 (.one 4 (.take 5 .done)))))) ae ae ae G (λ_ _ _ _ h=>h) ⟨Pp,Pr⟩ ?_;obtain⟨e0,Pe⟩:=J x1.drew;have d:=aQ x1;rw[<-Pe]at d⊢;have RG:=Z Pp d;have RH:=Z Pr d;have QZ:=ac OZ d;clear d Pe Pp Pr OZ;have P:=RG;clear RG;have H:=RH;clear RH;have V:=QZ;clear QZ
  (refine ay (v:=ic Pd) rfl ag (λF U=>bJ jv rfl Py rfl rfl U.1) ?_;refine L ?_)
  (refine ay (v:=ic K) rfl ag (λF U=>bJ jr rfl WX rfl rfl U.2) ?_;refine L ?_)
  refine aC ?_;refine ai rfl (λK' u=>?_);rw[if_pos ag];refine jj 31 _ _ rfl (t+1+1+1+1) Pd rfl rfl 31 _ P.out Py rfl Wu ?_;rw[dq P];refine u _ _ ⟨P,H⟩ λ_=>?_
  clear u;refine L ?_;refine ai rfl (λK' u=>?_);rw[if_pos ag];refine jj 55 _ _ rfl (t+1+1+1+1+1) K rfl rfl 55 _ H.out WX rfl Ri ?_;rw[dq H];refine u _ _ ⟨P,H⟩ λ_=>?_
  clear u;refine L ?_;refine aC ?_;refine jt ?_
  go_wp2_with fail
  exact jE (nN rfl _ _ (t+1+1+1+1) (t+1+1+1+1+1) 31 55 Pd K (0,0) (0,0) _ _ rfl rfl P H jv rfl Py jr rfl WX) rfl ⟨λh=>absurd (c.symm.trans h) G,λ_=>by rw[U7,Yg,c];kernel_rfl,V⟩
 case inr.inl=>
  have c:hH (er=221):=O (by rw[i,<-cd,C];rfl);subst C;clear q
  go_upto_region 5 with fail
  refine ju ?_;refine aY (λF=>F.heap[(t+1+1+1+1)]?=A (hK Pd 31 (0,0))/\F.heap[(t+1+1+1+1+1)]?=A (hK K 55 (0,0))) (.take 0 (.take 1 (.take 2 (.one 3 (.one 4 (.take 5 .done)))))) ae ae ae G (λ_ _ _ _ h=>h) ⟨Pp,Pr⟩ ?_;obtain⟨e0,Pe⟩:=J x1.drew;have d:=aQ x1;rw[<-Pe]at d⊢;have RG:=Z Pp d;have RH:=Z Pr d;have QZ:=ac OZ d;clear d Pe Pp Pr OZ;have P:=RG;clear RG;have H:=RH;clear RH;have V:=QZ;clear QZ
  (refine ay (v:=ic Pd) rfl ag (λF U=>bJ jv rfl Py rfl rfl U.1) ?_;refine L ?_)
  (refine ay (v:=ic K) rfl ag (λF U=>bJ jr rfl WX rfl rfl U.2) ?_;refine L ?_)
  refine aC ?_;refine ai rfl (λK' u=>?_);rw[if_pos ag];refine jj 31 _ _ rfl (t+1+1+1+1) Pd rfl rfl 31 _ P.out Py rfl Wu ?_;rw[dq P];refine u _ _ ⟨P,H⟩ λ_=>?_
  clear u;refine L ?_;refine ai rfl (λK' u=>?_);rw[if_pos ag];refine jj 55 _ _ rfl (t+1+1+1+1+1) K rfl rfl 55 _ H.out WX rfl Ri ?_;rw[dq H];refine u _ _ ⟨P,H⟩ λ_=>?_
  clear u;refine L ?_;refine aC ?_;refine jt ?_
  go_wp2_with fail
  exact jE (nN rfl _ _ (t+1+1+1+1) (t+1+1+1+1+1) 31 55 Pd K (0,0) (0,0) _ _ rfl rfl P H jv rfl Py jr rfl WX) rfl ⟨λh=>absurd (c.symm.trans h) G,λ_=>by rw[U7,Yg,c];kernel_rfl,V⟩
 have o:hH (er=if x<1\/2305843009213688669<=x then 50 else if((aG 4 x.toNat:Nat):Int)≠dp g a m then 221 else 0):=O (by rw[i,<-cd,C];rfl);subst C;have j:cG g:=by
  by_cases C:cG g
  ·exact C
  rw[gA C]at hv;cases hv
 have U4:=O j;have TW:=O (mo.1 hf);have ej:=O (pK.1 hp);have RF:hH (dc g a m=dF (aJ g.tree m) a):=O (ru cd.symm);have hB:0<=ep:=by rw[RE];exact j.ep.1
 have SY:=O (sP j TW ej);clear hv hf hp j i WA
 by_cases cf:im x
 case neg=>
  have c:hH (er=50):=O (by rw[o,if_pos (by unfold im at cf;omega)]);have i:=O (EV x cf);clear cf q
  go_wp2_with fail
  refine(i x1).mono ?_;rintro e x2 ⟨rfl,rfl⟩
  go_upto_region 8 with fail
  refine ju ?_;refine aY (λF=>F.heap[(t+1+1+1+1)]?=A (hK Pd 31 (0,0))/\F.heap[(t+1+1+1+1+1)]?=A (hK K 55 (0,0))) (.take 0 (.take 1 (.take 2 (.one 3 (.one 4 (.take 5 .done)))))) ae ae ae G (λ_ _ _ _ h=>h) ⟨Pp,Pr⟩ ?_;obtain⟨e0,Pe⟩:=J x1.drew;have d:=aQ x1;rw[<-Pe]at d⊢;have RG:=Z Pp d;have RH:=Z Pr d;have QZ:=ac OZ d;clear d Pe Pp Pr OZ;have P:=RG;clear RG;have H:=RH;clear RH;have V:=QZ;clear QZ
  (refine ay (v:=ic Pd) rfl ag (λF U=>bJ jv rfl Py rfl rfl U.1) ?_;refine L ?_)
  (refine ay (v:=ic K) rfl ag (λF U=>bJ jr rfl WX rfl rfl U.2) ?_;refine L ?_)
  refine aC ?_;refine ai rfl (λK' u=>?_);rw[if_pos ag];refine jj 31 _ _ rfl (t+1+1+1+1) Pd rfl rfl 31 _ P.out Py rfl Wu ?_;rw[dq P];refine u _ _ ⟨P,H⟩ λ_=>?_
  clear u;refine L ?_;refine ai rfl (λK' u=>?_);rw[if_pos ag];refine jj 55 _ _ rfl (t+1+1+1+1+1) K rfl rfl 55 _ H.out WX rfl Ri ?_;rw[dq H];refine u _ _ ⟨P,H⟩ λ_=>?_
  clear u;refine L ?_;refine aC ?_;refine jt ?_
  go_wp2_with fail
  exact jE (nN rfl _ _ (t+1+1+1+1) (t+1+1+1+1+1) 31 55 Pd K (0,0) (0,0) _ _ rfl rfl P H jv rfl Py jr rfl WX) rfl ⟨λh=>absurd (c.symm.trans h) G,λ_=>by rw[U7,Yg,c];kernel_rfl,V⟩
 obtain⟨X,hX⟩:=lw (show 0<=x by have:=cf.1;omega);have YB:=O hX;obtain⟨i,j⟩:=cf;subst hX;have QO:hH (1<=X/\X<2305843009213688669):=O ⟨by omega,by omega⟩;have Sj:hH (er=if((aG 4 X:Nat):Int)≠dp g a m then 221 else 0):=O (by rw[o,if_neg Y];rfl);clear i j o
 go_wp2_with fail
 refine(sA X QO.1 QO.2 x1).mono ?_;rintro e x2 ⟨rfl,d⟩;have i:=Z s d;have D:=Z U2 d;have M:=Z PV d;have Px:=Z PR d;have Pu:=Z Pp d;have PC:=Z Pr d;have O4:=ac OZ d;have YE:=aE q d;clear s U2 PV PR Pp Pr OZ q;clear d;obtain⟨vk,j⟩:=J (dp g a m);obtain⟨pb,cj⟩:∃y:Int,y=((aG 4 X:Nat):Int):=⟨_,rfl⟩;rw[<-j]at ed Sj;rw[<-cj]at Sj⊢;have Q7:=O j;have g7:=O cj;clear j cj
 go_upto_region 9 with fail
 refine jG ?_;refine aO ?_;refine jy rfl 54 _ rfl t rfl 54 al (0,0) _ i.out pz rfl SG ?_;refine L ?_
 go_wp2_with fail
 refine(ed x2 U4 TW ej (eg.below O4) ((EK.At.of_sl (E:=EC) Ws).below O4)).mono ?_;rintro e x3 ⟨rfl,d⟩;have Qw:=Z i d;have TC:=Z D d;have o:=Z M d;have Qo:=Z Px d;have PM:=Z Pu d;have PL:=Z PC d;have O8:=ac O4 d;have TD:=aE YE d;clear i D M Px Pu PC O4 YE;clear d
 by_cases h2:pb=vk
 case neg=>
  have ea:(pb !=vk)=true:=by simpa using h2
  have eb:(pb==vk)=false:=by simpa using h2
  have c:hH (er=221):=O (by rw[Sj,if_pos h2]);clear h2 TD
  go_upto_region 10 with fail
  refine ju ?_;refine aY (λF=>F.heap[(t+1+1+1+1)]?=A (hK Pd 31 (0,0))/\F.heap[(t+1+1+1+1+1)]?=A (hK K 55 (0,0))) (.take 0 (.take 1 (.one 2 (.one 3 (.take 4 .done))))) ae ae ae G (λ_ _ _ _ h=>h) ⟨PM,PL⟩ ?_;obtain⟨e0,Pe⟩:=J x3.drew;have d:=aQ x3;rw[<-Pe]at d⊢;have RG:=Z PM d;have RH:=Z PL d;have QZ:=ac O8 d;clear d Pe PM PL O8;have P:=RG;clear RG;have H:=RH;clear RH;have V:=QZ;clear QZ
  (refine ay (v:=ic Pd) rfl ag (λF U=>bJ jv rfl Py rfl rfl U.1) ?_;refine L ?_)
  (refine ay (v:=ic K) rfl ag (λF U=>bJ jr rfl WX rfl rfl U.2) ?_;refine L ?_)
  refine ai rfl (λK' u=>?_);rw[if_pos ag];refine jj 31 _ _ rfl (t+1+1+1+1) Pd rfl rfl 31 _ P.out Py rfl Wu ?_;rw[dq P];refine u _ _ ⟨P,H⟩ λ_=>?_
  clear u;refine L ?_;refine ai rfl (λK' u=>?_);rw[if_pos ag];refine jj 55 _ _ rfl (t+1+1+1+1+1) K rfl rfl 55 _ H.out WX rfl Ri ?_;rw[dq H];refine u _ _ ⟨P,H⟩ λ_=>?_
  clear u;refine L ?_;refine aC ?_;refine jt ?_
  go_wp2_with fail
  exact jE (nN rfl _ _ (t+1+1+1+1) (t+1+1+1+1+1) 31 55 Pd K (0,0) (0,0) _ _ rfl rfl P H jv rfl Py jr rfl WX) rfl ⟨λh=>absurd (c.symm.trans h) G,λ_=>by rw[U7,Yg,c];kernel_rfl,V⟩
 have ea:(pb !=vk)=false:=by simpa using h2
 have eb:(pb==vk)=true:=by simpa using h2
 have SD:hH (er=0):=O (by rw[Sj,if_neg (λhn=>hn h2)]);have g8:hH (dp g a m=(aG 4 X:Nat)):=O (by rw[<-Q7,<-h2,g7]);clear h2;have k:=cell_of Qw YJ.2;obtain⟨ix,c⟩:=J (if g.epoch=0 then dh else init);obtain⟨IX,i⟩:=J ((ix.map v8).toArray);have j:ix.length=32:=by rw[c];split;exact du;exact TB
 have g9:=O j;have YX:=O c;have bl:=O i;have ek:hH ((ih.info? 55).map (·.size)=A IX.size):=O (by rw[i,jl,jd,j];kernel_rfl);clear j
 go_upto_if 69 with fail
 go_cut []from 69 (λj=>j=x3.setRow (t+1+1) IX)
 case first=>
  by_cases j:ep=0
  ·have D:(ep==0)=true:=by simpa using j
   have M:IX=(dh.map v8).toArray:=by rw[i,c,if_pos (by rw[<-RE];exact j)]
   have Q:hH ((dh.map v8).toArray.all (·.oneCell')=true):=O (dA _);have ad:hH (a4.size=(dh.map v8).toArray.size):=O (by rw[fe,jl,jd,jl,jd,TB,du]);rw[M]at ek;have a3:=O M;clear j M i c
   try rw[D]
   go_upto_region 12 with fail
   refine jG ?_;refine cN (v:=ic (dh.map v8).toArray) ag (JO rfl _) ?_;refine js rfl λ_ u=>jj 55 _ _ rfl (t+1+1) (dh.map v8).toArray rfl rfl 55 _ o.out ek ad Q (u _ _ ?_)
   refine L ?_
   go_wp2_with fail
   go_meet
   rw[a3]
  have D:(ep==0)=false:=by simpa using j
  have M:IX=a4:=by rw[i,c,if_neg (by rw[<-RE];exact j),fe]
  have Q:=O M;clear j M i c
  try rw[D]
  go_wp2_with fail
  go_meet
  rw[Q];exact(dq o).symm
 subst hcut;clear i c ea eb k;have c:hH ((x3.setRow (t+1+1) IX).heap[t]?=A (hK al 54 (0,0))):=O ((jh _ _ _ _ (by first|omega|(have:=S9.out;omega))).trans Qw);have D:hH ((x3.setRow (t+1+1) IX).heap[t+1]?=A (hK Pi 55 (0,0))):=O ((jh _ _ _ _ (by first|omega|(have:=S9.out;omega))).trans TC);have M:hH ((x3.setRow (t+1+1) IX).heap[t+1+1]?=A (hK IX 55 (0,0))):=O (jL _ _ _ _ _ _ o.out);have Q:hH ((x3.setRow (t+1+1) IX).heap[t+1+1+1]?=A (hK S 55 (0,0))):=O ((jh _ _ _ _ (by first|omega|(have:=S9.out;omega))).trans Qo);have UP:hH ((x3.setRow (t+1+1) IX).heap[(t+1+1+1+1)]?=A (hK Pd 31 (0,0))):=O ((jh _ _ _ _ (by first|omega|(have:=S9.out;omega))).trans PM);have UR:hH ((x3.setRow (t+1+1) IX).heap[(t+1+1+1+1+1)]?=A (hK K 55 (0,0))):=O ((jh _ _ _ _ (by first|omega|(have:=S9.out;omega))).trans PL);have UQ:hH (ii w w (x3.setRow (t+1+1) IX)):=O (j1 O8.out (by rw[HG];omega) _);have ad:=O (lu (w':=(x3.setRow (t+1+1) IX)) TD (λk hk=>jh _ _ _ _ (aw ce)));generalize(x3.setRow (t+1+1) IX)=x4 at c D M Q UP UR UQ ad⊢;clear Qw TC o Qo PM PL O8 TD;have Tx:=c;clear c;have o:=D;clear D;have a5:=M;clear M;have QR:=Q;clear Q;have QD:=UP;clear UP;have Qs:=UR;clear UR;have Pf:=UQ;clear UQ;have ba:=ad;clear ad
 go_upto_region 13 with fail
 refine jG ?_;refine jy rfl 55 _ rfl (t+1) rfl 55 Pi (0,0) _ o.out jr rfl Sa ?_;have a3:hH (∀W,cJ W->jb ih 16 #[ic Pi] W λe w'=>∃v,e=ja v/\w'.ownsRow W 55 32 v 10 (fy (fg z 10))/\ii W W w'):=O (by rw[g3];exact λW hW=>zZ z QC W hW)
 go_wp2_with fail
 refine(a3 x4 (Qa.dig.below Pf)).mono ?_;rintro e x5 ⟨v,rfl,hv,d⟩;obtain⟨gl,cl,LC,rfl,hD,bb,bc,SQ⟩:=Eg hv G;have ck:=O bc;have S9:hH (t+6<=gl):=O (by have h5:=(jf.1 Qs).1;have:=bb;omega);have ec:hH (∀i j aa,i<10->((bQ z i).map v8)[j]?=A aa->LC[i*32+j]?=A aa):=O (λi j aa hi hj=>SQ _ _ (Dq z QC 10 i j hi aa hj));clear hv bc SQ bb a3;have Wb:=Z Tx d;have bf:=Z o d;have a3:=Z a5 d;have T5:=Z QR d;have VE:=Z QD d;have Sz:=Z Qs d;have Pk:=ac Pf d;have bg:=aE ba d;clear Tx o a5 QR QD Qs Pf ba;clear d;obtain⟨RL,a5⟩:=J (((bQ z 9).map v8).toArray);obtain⟨SA,o⟩:=J (((fD g z init).map v8).toArray);have bm:hH (∀W,fL W->jb ih 17 #[ic IX,ic RL] W λe w'=>e=ja (ic SA)/\ii W W w'):=O (by
  rw[bl,a5,o];unfold fD;rw[<-YX];exact λW hW=>Db ix (bQ z 9) g9 (dY z QC 9) W hW)
 have cm:hH ((ih.info? 55).map (·.size)=A SA.size):=O (by rw[o,jl,jd,kv];kernel_rfl);have ha:hH (K.size=SA.size):=O (by rw[o,<-Yg,jl,jd,jl,jd,kv,du]);have fv:hH (SA.all (·.oneCell')=true):=O (by rw[o];exact dA _);have bn:=O a5;have em:=O o;have bo:hH ((ih.info? 55).map (·.size)=A ((bQ z 9).map v8).length):=O (by rw[jd,dY z QC];kernel_rfl);clear a5 o
 go_upto_region 14 with fail
 refine ju ?_;refine aY (λF=>F.heap[t+1+1]?=A (hK IX 55 (0,0))/\F.heap[gl]?=A (hK LC 55 (0,0))) (.take 0 (.take 1 (.take 2 (.take 3 (.one 4 (.one 5 .done)))))) ae ae ae G (λ_ _ _ _ h=>h) ⟨a3,ck⟩ ?_;obtain⟨y0,Pe⟩:=J x5.drew;have d:=aQ x5;rw[<-Pe]at d⊢;have Um:=Z Wb d;have bb:=Z bf d;have bc:=Z a3 d;have ba:=Z T5 d;have RG:=Z VE d;have RH:=Z Sz d;have QZ:=ac Pk d;have bd:=aE bg d;have bw:=Z ck d;clear d Pe Wb bf a3 T5 VE Sz Pk bg ck;have Qc:=Um;clear Um;have Wo:=bb;clear bb;have a2:=bc;clear bc;have Qv:=ba;clear ba;have P:=RG;clear RG;have H:=RH;clear RH;have V:=QZ;clear QZ;have VA:=bd;clear bd;have Z4:=bw;clear bw
 (refine ay (v:=ic IX) rfl ag (λF U=>bJ jr rfl ek rfl rfl U.1) ?_;refine L ?_)
 iterate 2 refine aC ?_
 (refine ay (v:=ic RL) rfl ag (λF U=>by rw[bn];exact m6 jr rfl bo rfl rfl (pP (o:=288) U.2 (λj aa hj=>ec 9 j aa G hj))) ?_;refine L ?_)
 refine ai rfl (λK' u=>?_);go_simp;refine(bm y0 (Qa.below V)).mono ?_;rintro e y1 ⟨rfl,d⟩;have s:=Z Qc d;have U2:=Z Wo d;have PV:=Z a2 d;have PR:=Z Qv d;have Pp:=Z P d;have Pr:=Z H d;have OZ:=ac V d;have q:=aE VA d;have Ue:=Z Z4 d;clear Qc Wo a2 Qv P H V VA Z4;clear d;refine u _ _ ⟨PV,Ue⟩ λ_=>?_
 clear u;refine L ?_;refine ai rfl (λK' u=>?_);rw[if_pos ag];refine jj 55 _ _ rfl (t+1+1+1+1+1) SA rfl rfl 55 _ Pr.out cm ha fv ?_;refine u _ _ ⟨(jh _ _ _ _ Y).trans PV,(jh _ _ _ _ (aw S9)).trans Ue⟩ λ_=>?_
 clear u;have c:hH ((y1.setRow (t+1+1+1+1+1) SA).heap[t]?=A (hK al 54 (0,0))):=O ((jh _ _ _ _ (by first|omega|(have:=S9.out;omega))).trans s);have D:hH ((y1.setRow (t+1+1+1+1+1) SA).heap[t+1]?=A (hK Pi 55 (0,0))):=O ((jh _ _ _ _ (by first|omega|(have:=S9.out;omega))).trans U2);have M:hH ((y1.setRow (t+1+1+1+1+1) SA).heap[t+1+1]?=A (hK IX 55 (0,0))):=O ((jh _ _ _ _ (by first|omega|(have:=S9.out;omega))).trans PV);have Q:hH ((y1.setRow (t+1+1+1+1+1) SA).heap[t+1+1+1]?=A (hK S 55 (0,0))):=O ((jh _ _ _ _ (by first|omega|(have:=S9.out;omega))).trans PR);have UP:hH ((y1.setRow (t+1+1+1+1+1) SA).heap[(t+1+1+1+1)]?=A (hK Pd 31 (0,0))):=O ((jh _ _ _ _ (by first|omega|(have:=S9.out;omega))).trans Pp);have UR:hH ((y1.setRow (t+1+1+1+1+1) SA).heap[(t+1+1+1+1+1)]?=A (hK SA 55 (0,0))):=O (jL _ _ _ _ _ _ Pr.out);have UQ:hH (ii w w (y1.setRow (t+1+1+1+1+1) SA)):=O (j1 OZ.out (by rw[HG];omega) _);have ad:=O (lu (w':=(y1.setRow (t+1+1+1+1+1) SA)) q (λk hk=>jh _ _ _ _ (aw ce)));have a3:hH ((y1.setRow (t+1+1+1+1+1) SA).heap[gl]?=A (hK LC 55 (0,0))):=O ((jh _ _ _ _ (by first|omega|(have:=S9.out;omega))).trans Ue);generalize(y1.setRow (t+1+1+1+1+1) SA)=y9 at c D M Q UP UR UQ ad a3⊢;clear s U2 PV PR Pp Pr OZ q Ue;have SX:=c;clear c;have bg:=D;clear D;have bh:=M;clear M;have Z2:=Q;clear Q;have RR:=UP;clear UP;have SC:=UR;clear UR;have Qx:=UQ;clear UQ;have bf:=ad;clear ad;have a5:=a3;clear a3;refine L ?_;refine jt ?_;have bq:hH ((ih.info? 23).map (·.size)=A (g.last.map v8).length):=O (by rw[jd,RI];kernel_rfl);obtain⟨DL,bk⟩:=J ((g.last.map v8).toArray);have Rb:=O bk;have ga:hH (pa.wrap (ep+1)=ep+1):=O (by rw[qj];omega);have br:hH (DL.size=32):=O (by rw[bk,jl,jd,RI]);clear bk
 go_upto_region 15 with fail
 refine ju ?_;refine aY (λF=>F.heap[t]?=A (hK al 54 (0,0))) (.take 0 (.take 1 (.take 2 (.take 3 (.take 4 (.take 5 (.take 6 (.take 7 (.take 8 (.one 9 (.take 10 (.one 11 .done)))))))))))) ae ae ae G (λ_ _ _ _ h=>h) SX ?_;obtain⟨z0,Pe⟩:=J y9.drew;have d:=aQ y9;rw[<-Pe]at d⊢;have Um:=Z SX d;have bb:=Z bg d;have bc:=Z bh d;have ba:=Z Z2 d;have RG:=Z RR d;have RH:=Z SC d;have QZ:=ac Qx d;have bd:=aE bf d;have bw:=Z a5 d;clear d Pe SX bg bh Z2 RR SC Qx bf a5;have Qc:=Um;clear Um;have Wo:=bb;clear bb;have a2:=bc;clear bc;have Qv:=ba;clear ba;have P:=RG;clear RG;have H:=RH;clear RH;have V:=QZ;clear QZ;have VA:=bd;clear bd;have Z4:=bw;clear bw;iterate 6 (refine ay (v:=?_) rfl ag (λF U=>?_) ?_;rotate_left;(have b0:=cell_of U YJ.1;have b1:=cell_of U YJ.2;go_simp;with_reducible rfl);refine L ?_)
 (refine ay (v:=ic DL) rfl ag (λF U=>by rw[Rb];exact m6 j3 rfl bq rfl rfl (g2 F t U)) ?_;refine L ?_)
 iterate 2 (refine ay (v:=?_) rfl ag (λF U=>?_) ?_;rotate_left;(have b0:=cell_of U YJ.1;have b1:=cell_of U YJ.2;go_simp;with_reducible rfl);refine L ?_)
 refine ai rfl (λK' u=>?_);go_simp;refine(El m _ z0 ((EK.At.of_sl (E:=EC) Ws).below V) dv).mono ?_;rintro e z1 ⟨aa,rfl,hu,d⟩;obtain⟨EE,bb⟩:=J z0.heap.size;rw[<-bb]at hu;have bK:hH (t+6<=EE):=O (by have h5:=(jf.1 H).1;omega);clear bb;have Ta:=O hu;clear hu;obtain⟨QE,c1,rfl⟩:=aL Ta;obtain⟨X0,bc⟩:∃y:Array hU,y= #[I N fd,I N (ep+1)]++DL++ #[I N a,T QE m.length c1,T hF 0 0,T hF 0 0,T hF 0 0]++(dh.map v8).toArray++ #[I N 0,I N 0]:=⟨_,rfl⟩;have Ua:=O bc;have bb:X0=(aj (mk0 g a m z) ⟨T QE m.length c1,T hF 0 0,T hF 0 0,T hF 0 0⟩).toArray:=by rw[bc,Rb,g4,RE];unfold aj mk0;simp
 have bs:=O bb;have bu:hH ((ih.info? 31).map (·.size)=A X0.size):=O (by rw[bb,jl,eA _ _ RI.out du];exact dZ);have bv:hH (X0.all (·.oneCell')=true):=O (by rw[bb];exact mj _ _ _ _ _ _ _ _ _ _ _ _ _);have bB:hH (Pd.size=X0.size):=O (by rw[bb,<-U7,jl,jl,eA (mk0 g a m z) _ RI.out du,eA dG eX du du]);clear bc bb;have s:=Z Qc d;have U2:=Z Wo d;have PV:=Z a2 d;have PR:=Z Qv d;have Pp:=Z P d;have Pr:=Z H d;have OZ:=ac V d;have q:=aE VA d;have Ue:=Z Z4 d;clear Qc Wo a2 Qv P H V VA Z4;clear d;refine u _ _ s.out λ_=>?_
 clear u;refine L ?_
 (refine ay (v:=ic X0) rfl ag (λF U=>by rw[Ua];exact Hf (f:=fd) (e:=ep+1) (au:=a) br rfl (by simp only[o4,jS,lo,Act.eval,Array.getD_eq_getD_getElem?];simp;exact ga) F) ?_;refine L ?_)
 refine ai rfl (λK' u=>?_);rw[if_pos ag];refine jj 31 _ _ rfl (t+1+1+1+1) X0 rfl rfl 31 _ Pp.out bu bB bv ?_;refine u _ _ ((jh _ _ _ _ Y).trans s) λ_=>?_
 clear u;have a2:hH ((z1.setRow (t+1+1+1+1) X0).ownsRow EE 59 5 (T QE m.length c1) m.length (m.flatMap Chg.cells)):=O (lu Ta (λk hk=>jh _ _ _ _ (aw bK)));have c:hH ((z1.setRow (t+1+1+1+1) X0).heap[t]?=A (hK al 54 (0,0))):=O ((jh _ _ _ _ (by first|omega|(have:=S9.out;omega))).trans s);have D:hH ((z1.setRow (t+1+1+1+1) X0).heap[t+1]?=A (hK Pi 55 (0,0))):=O ((jh _ _ _ _ (by first|omega|(have:=S9.out;omega))).trans U2);have M:hH ((z1.setRow (t+1+1+1+1) X0).heap[t+1+1]?=A (hK IX 55 (0,0))):=O ((jh _ _ _ _ (by first|omega|(have:=S9.out;omega))).trans PV);have Q:hH ((z1.setRow (t+1+1+1+1) X0).heap[t+1+1+1]?=A (hK S 55 (0,0))):=O ((jh _ _ _ _ (by first|omega|(have:=S9.out;omega))).trans PR);have UP:hH ((z1.setRow (t+1+1+1+1) X0).heap[(t+1+1+1+1)]?=A (hK X0 31 (0,0))):=O (jL _ _ _ _ _ _ Pp.out);have UR:hH ((z1.setRow (t+1+1+1+1) X0).heap[(t+1+1+1+1+1)]?=A (hK SA 55 (0,0))):=O ((jh _ _ _ _ (by first|omega|(have:=S9.out;omega))).trans Pr);have UQ:hH (ii w w (z1.setRow (t+1+1+1+1) X0)):=O (j1 OZ.out (by rw[HG];omega) _);have ad:=O (lu (w':=(z1.setRow (t+1+1+1+1) X0)) q (λk hk=>jh _ _ _ _ (aw ce)));have a3:hH ((z1.setRow (t+1+1+1+1) X0).heap[gl]?=A (hK LC 55 (0,0))):=O ((jh _ _ _ _ (by first|omega|(have:=S9.out;omega))).trans Ue);generalize(z1.setRow (t+1+1+1+1) X0)=z9 at c D M Q UP UR UQ ad a3 a2⊢;clear s U2 PV PR Pp Pr OZ q Ue;have SX:=c;clear c;have bg:=D;clear D;have bh:=M;clear M;have Z2:=Q;clear Q;have RR:=UP;clear UP;have SC:=UR;clear UR;have Qx:=UQ;clear UQ;have bf:=ad;clear ad;have a5:=a3;clear a3;clear Ta;have bb:=a2;clear a2;refine L ?_;refine jt ?_;obtain⟨M,c⟩:=J z9.heap.size;have Qd:hH ((t+1+1+1+1)<M):=O (by rw[c];exact(jf.1 RR).1);have cp:hH (gl<M):=O (by rw[c];exact(jf.1 a5).1);have Vz:=O c;have cr:hH ((t+1+1+1+1+1)<M):=O (by rw[c];exact(jf.1 SC).1);have bc:hH (∀aa v,((λv=>(aj (mk0 g a m z) ⟨T QE m.length c1,v,T hF 0 0,T hF 0 0⟩).toArray) aa).setIfInBounds 36 v=(λv=>(aj (mk0 g a m z) ⟨T QE m.length c1,v,T hF 0 0,T hF 0 0⟩).toArray) v):=O (λaa v=>Dv (mk0 g a m z) _ _ _ _ _ RI.out);have D:hH (da M (t+1+1+1+1) 31 3 1 (λv=>(aj (mk0 g a m z) ⟨T QE m.length c1,v,T hF 0 0,T hF 0 0⟩).toArray) z9 z9 0 (T hF 0 0) (((dl z).take 0).map (jF .i64))):=O ⟨by have h:=RR.out;rw[bs]at h;exact h,j8 _ _ _ _,aD.refl _ _ _,jA c⟩;have hh:hH (∀w,(Instr.alloc 55 true (jB #[])).run ih w=.ok (ji (A ⟨w,0,hF⟩)) (w.alloc (hK K 55))):=O (λw=>by rw[<-Yg];kernel_rfl);clear c;rw[ga]
 go_upto_region 16 with fail
 go_wp2_with fail
 go_loopw [91] (λv wr=>∃(i:Nat) (pv:Option jw) (cv:Nat),v=I N i/\i<=10/\hH (da M (t+1+1+1+1) 31 3 1 (λv=>(aj (mk0 g a m z) ⟨T QE m.length c1,v,T hF 0 0,T hF 0 0⟩).toArray) z9 wr i (T pv i cv) (((dl z).take i).map (jF .i64)))) (λv _=>10-(jo v).toNat)
 case atStart=>exact⟨0,hF,0,rfl,jC _,D⟩
 clear D;obtain⟨i,pv,cv,rfl,hi,PG⟩:=hrel
 by_cases bk:i<10
 ·have hd:=ap ((i:Int)<10)
  have PX:=ap (i<10);have gb:(i:Int)<10:=Y;obtain⟨c,D⟩:=J (((bQ z i).map v8).toArray);have bM:=O D;have a3:hH ((ih.info? 55).map (·.size)=A c.size):=O (by rw[D,jl,jd,dY z QC];kernel_rfl);have bN:hH (K.size=c.size):=O (by rw[D,<-Yg,jl,jd,jl,jd,dY z QC,du]);have bO:hH (c.all (·.oneCell')=true):=O (by rw[D];exact dA _);have bT:hH ((ih.info? 55).map (·.size)=A ((bQ z i).map v8).length):=O (by rw[jd,dY z QC];kernel_rfl);have b0:hH (∀W,fL W->jb ih 40 #[ic c] W λe w'=>e=ja (I N (lF (bQ z i):Nat))/\ii W W w'):=O (by rw[D];exact λW hW=>NU _ (dY z QC i) W hW);have bd:hH (wr.heap[gl]?=A (hK LC 55 (0,0))):=O ((PG.but.block gl cp (aw S9)).trans a5);have Q:hH (wr.rangeAt gl (i*32) ((bQ z i).map v8)):=O (pP bd (λj aa hj=>ec i j aa bk hj));have QX:hH (ii w w wr):=O (Qx.trans (PG.but.below (n:=w.heap.size) (by rw[HG];omega) (dP Qd HG)));clear D
  go_upto_region 18 with fail
  refine jG ?_;refine aO ?_;refine rZ ag λ_ u=>wp_load_mid 55 _ rfl _ _ rfl ((bQ z i).map v8) _ (by first|exact Q|simpa using Q.out) jr rfl bT (u _ _ ?_)
  rw[<-bM];refine js rfl λ_ u=>fu 55 rfl K hh (u _ _ ?_)
  refine js rfl λ_ u=>jj 55 _ _ rfl wr.heap.size c rfl rfl 55 K (je wr _) a3 bN bO (u _ _ ?_)
  have a2:((wr.alloc (hK K 55)).setRow wr.heap.size c).heap[wr.heap.size]?=A (hK c 55 (0,0)):=jL _ _ _ _ _ _ (je wr _);have d:ii wr wr ((wr.alloc (hK K 55)).setRow wr.heap.size c):=tI (af wr _) (jc _) _;obtain⟨k0,Ru⟩:=J ((wr.alloc (hK K 55)).setRow wr.heap.size c);obtain⟨b1,D⟩:=J wr.heap.size;rw[<-Ru,<-D]at a2;rw[<-Ru]at d⊢;rw[<-D]at⊢;have bA:=O (PG.later (aw Qd) d);have ad:=O a2;have V:hH (ii w w k0):=ac QX d;clear a2 d Ru D PG QX bd Q
  go_upto_region 19 with fail
  refine jG ?_;refine jy rfl 55 _ rfl b1 rfl 55 c (0,0) _ ad.out jr rfl a3 ?_
  go_wp2_with fail
  refine(b0 k0 (Qa.below V)).mono ?_;rintro e k1 ⟨rfl,d⟩;have bC:=O (bA.later Qd d);have bI:=Z ad d;have OZ:=ac V d;clear bA ad V;clear d
  go_wp2_with fail
  refine(sA (lF (bQ z i)) (AA _).1 (AA _).2 k1).mono ?_;rintro e D ⟨rfl,d⟩;have Q:=O (bC.later Qd d);have b2:=Z bI d;have O4:=ac OZ d;clear bC bI OZ;clear d;obtain⟨pp,ad⟩:∃y:Int,y=((aG 4 (lF (bQ z i)):Nat):Int):=⟨_,rfl⟩;rw[<-ad];have bA:=O ad;clear ad;have T8:=cell_of Q.box (show((λv=>(aj (mk0 g a m z) ⟨T QE m.length c1,v,T hF 0 0,T hF 0 0⟩).toArray) (T pv i cv))[36]?=A (T pv i cv) by have h:=(eK (mk0 g a m z) ⟨T QE m.length c1,T pv i cv,T hF 0 0,T hF 0 0⟩ RI du).2.2.2.2.1;simpa using h);have ad:((λv=>(aj (mk0 g a m z) ⟨T QE m.length c1,v,T hF 0 0,T hF 0 0⟩).toArray) (T pv i cv)).size=73:=by rw[jl,eA _ _ RI.out du]
  have bC:=O ad;clear ad
  go_wp2_with (at_builtin;refine Hid.out ?_)
  refine O ?_;refine js rfl λ_ u=>Ea _ _ rfl M (T pv i cv) i _ rfl (cZ Q.own (af D _)) _ 1 [I N pp] rfl (ei D [I N pp] 3 (0,0) 1 1 1 rfl (jc _)) (by simp[jn]) Y (jk Q.sz' (af D _).size) λv' k9 Pz=>u _ _ ?_
  clear u;have YK:da M (t+1+1+1+1) 31 3 1 (λv=>(aj (mk0 g a m z) ⟨T QE m.length c1,v,T hF 0 0,T hF 0 0⟩).toArray) z9 (D.alloc (hK #[I N pp] 3)) i (T pv i cv) (((dl z).take i).map (jF .i64)):=Q.later (aw Qd) (af D _);have QB:=dW YK.box Pz.grown (bU YK.own (.inr Qd));obtain⟨pn,cn,rfl⟩:=aL Pz.own;have TJ:hH (da M (t+1+1+1+1) 31 3 1 (λv=>(aj (mk0 g a m z) ⟨T QE m.length c1,v,T hF 0 0,T hF 0 0⟩).toArray) z9 (k9.setCell ⟨(t+1+1+1+1),36,hF⟩ (T pn (i+1) cn)) (i+1) (T pn (i+1) cn) (((dl z).take (i+1)).map (jF .i64))):=O (by
   have h:=YK.push (i:=36) Qd Pz (bc _ _);rw[Lb z i bk,jX,jS,lo,<-bA];exact h)
  obtain⟨⟨vo,c3⟩,f3,-,-⟩:=bP (i:=36) (T pn (i+1) cn) QB (by rw[bC];decide);clear YK Pz QB T8
  go_wp2_with fail
  go_roundw
  case rel=>exact⟨i+1,pn,cn,by go_num,by omega,TJ⟩
  case measure=>simp only[jo];omega
 obtain rfl:i=10:=Y;have hd:decide ((10:Int)<10)=false:=by decide
 have PX:decide (10<10)=false:=by decide
 rename hZ=>p1;have bA:(dl z).take 10=dl z:=jN (by rw[iJ];exact jc _);rw[bA]at PG;have c:(dl z).length=10:=iJ z;have s:hH (p1.heap[t]?=A (hK al 54 (0,0))):=O ((PG.but.block (t) (by first|(have:=Qd.out;omega)|(have:=cr.out;omega)|(have:=cp.out;omega)) (by first|omega|(have:=S9.out;omega))).trans SX);have PR:hH (p1.heap[t+1+1+1]?=A (hK S 55 (0,0))):=O ((PG.but.block (t+1+1+1) (by first|(have:=Qd.out;omega)|(have:=cr.out;omega)|(have:=cp.out;omega)) (by first|omega|(have:=S9.out;omega))).trans Z2);have Pr:hH (p1.heap[(t+1+1+1+1+1)]?=A (hK SA 55 (0,0))):=O ((PG.but.block (t+1+1+1+1+1) (by first|(have:=Qd.out;omega)|(have:=cr.out;omega)|(have:=cp.out;omega)) (by first|omega|(have:=S9.out;omega))).trans SC);have Ue:hH (p1.heap[gl]?=A (hK LC 55 (0,0))):=O ((PG.but.block (gl) (by first|(have:=Qd.out;omega)|(have:=cr.out;omega)|(have:=cp.out;omega)) (by first|omega|(have:=S9.out;omega))).trans a5);have Pp:hH (p1.heap[(t+1+1+1+1)]?=A (hK ((λv=>(aj (mk0 g a m z) ⟨T QE m.length c1,v,T hF 0 0,T hF 0 0⟩).toArray) (T pv 10 cv)) 31 (0,0))):=O PG.box;have OZ:hH (ii w w p1):=O (Qx.trans (PG.but.below (n:=w.heap.size) (by rw[HG];omega) (dP Qd HG)));have Ta:hH (p1.ownsRow EE 59 5 (T QE m.length c1) m.length (m.flatMap Chg.cells)):=O (gU bb (λk a3 ad=>PG.but.block k (by rw[Vz];exact ad) (aw bK)));have q:=O (gU bf (λk a3 ad=>PG.but.block k (by rw[Vz];exact ad) (aw ce)));have D:hH (M<=p1.heap.size):=O PG.sz';have Uh:hH (p1.ownsRow M 3 1 (T pv 10 cv) 10 ((dl z).map (jF .i64))):=O PG.own;clear bA c PG bk hi bf SX bg bh Z2 RR SC Qx a5 bb bc bl YX bn bm bo Rb bq Ua bu bv bB bs br;obtain⟨pq,cq,hl,hm⟩:∃(p:Option jw) (c:Nat),p=pv/\c=cv:=⟨_,_,rfl,rfl⟩;subst hl;subst hm
 go_upto_region 22 with fail
 refine jG ?_;refine jy rfl 54 _ rfl t rfl 54 al (0,0) _ s.out pz rfl SG ?_;have Q:hH (M<=p1.heap.size):=D;clear s D
 go_wp2_with fail
 refine(Un p1 TW (eg.below OZ) ((EK.At.of_sl (E:=EC) Ws).below OZ)).mono ?_;rintro e pm ⟨u1,rfl,hu,d⟩;have s:=O hu;clear hu;obtain⟨pt,nt,ct,rfl⟩:=iO s;have D:hH (M<=pm.heap.size):=O (jk Q d.size);have a5:=Z PR d;have bb:=Z Pr d;have bf:=Z Ue d;have bg:=Z Pp d;have bh:=ac OZ d;have bl:=aE Ta d;have bm:=aE Uh d;have bn:=aE q d;clear PR Pr Ue Pp OZ Ta Uh q;clear d;clear Q
 go_upto_region 23 with fail
 have d:=af pm (hK #[T pt nt ct] 52);have Q:=je pm (hK #[T pt nt ct] 52);obtain⟨p2,C⟩:=J (pm.alloc (hK #[T pt nt ct] 52));rw[<-C]at d Q⊢;obtain⟨bt,hg⟩:=J pm.heap.size;rw[<-hg]at Q⊢;have q:=O hg;have Px:=Z a5 d;have PC:=Z bb d;have Z1:=Z bf d;have Pu:=Z bg d;have O4:=ac bh d;have Ud:=aE bl d;have Ui:=aE bm d;have YE:=aE bn d;have bc:=O (s.below d);clear a5 bb bf bg bh bl bm bn s;have s:=O Q;clear Q C d hg;have ho:hH (M<=bt):=O (by rw[q];exact D);have eq:=s;clear s D q;obtain⟨M2,q⟩:=J p2.heap.size;have YP:hH ((t+1+1+1+1)<M2):=O (by rw[q];exact(jf.1 Pu).1);have gf:hH ((t+1+1+1+1+1)<M2):=O (by rw[q];exact(jf.1 PC).1);have gi:hH (gl<M2):=O (by rw[q];exact(jf.1 Z1).1);have gm:hH (bt<M2):=O (by rw[q];exact(jf.1 eq).1);have gn:hH (bt≠(t+1+1+1+1)):=O (dP ho Qd);have Qk:=O q;have YQ:hH (∀aa v,((λv=>(aj (mk0 g a m z) ⟨T QE m.length c1,T pq 10 cq,v,T hF 0 0⟩).toArray) aa).setIfInBounds 37 v=(λv=>(aj (mk0 g a m z) ⟨T QE m.length c1,T pq 10 cq,v,T hF 0 0⟩).toArray) v):=O (λaa v=>um (mk0 g a m z) _ _ _ _ _ RI.out);obtain⟨nl,s⟩:=J (dc g a m);have WM:=O s;have U6:hH (nu=nl.length):=O (by rw[s];exact Zr);have gp:hH (nu<=511):=O (by rw[Zr,RF];exact zx _ SY.1 SY.2);have hr:=O (mJ m _ (kC U4.tree) (sk U4 TW ej)).1;have D:hH (bX M2 (t+1+1+1+1) 31 73 4 Bx.cells Bx.body (λv=>(aj (mk0 g a m z) ⟨T QE m.length c1,T pq 10 cq,v,T hF 0 0⟩).toArray) p2 p2 0 (T hF 0 0) ((nl.take 0).map (dV g a m z seed)) []):=O (bX.start Pu (jA q));clear q s
 go_upto_region 23 with fail
 go_wp2_with fail
 go_loopw [113] (λv wr=>∃(i:Nat) (pv:Option jw) (cv:Nat) (us:List hU),v=I N i/\i<=nu/\hH (bX M2 (t+1+1+1+1) 31 73 4 Bx.cells Bx.body (λv=>(aj (mk0 g a m z) ⟨T QE m.length c1,T pq 10 cq,v,T hF 0 0⟩).toArray) p2 wr i (T pv i cv) ((nl.take i).map (dV g a m z seed)) us)) (λv _=>nu-(jo v).toNat)
 case atStart=>exact⟨0,hF,0,[],rfl,jC _,D⟩
 clear D;obtain⟨i,pv,cv,us,rfl,hi,PG⟩:=hrel;have cc:=gp.out
 by_cases bk:i<nu
 ·have hd:=ap ((i:Int)<(nu:Int))
  have PX:=ap (i<nu);have gb:(i:Int)<(nu:Int):=Y;have QX:hH (ii w w wr):=O (O4.trans (PG.row.but.below (n:=w.heap.size) (by rw[HG];omega) (dP YP HG)));have Sm:=PG.row.but;have D:=O (gU YE (λk a3 ad=>Sm.block k (by rw[Qk];exact ad) (aw ce)));have cs:=O (gU Ud (λk a3 ad=>Sm.block k (by rw[Qk];exact ad) (aw bK)));have cu:=O (gU Ui (λk a3 ad=>Sm.block k (by rw[Qk];exact ad) (aw Qd)));have bf:hH (aT wr (T pt nt ct) (aJ g.tree m)):=O (Im bc (j:=37) Pu PG.row.box (λk hk hn=>Sm.block k (by rw[Qk];exact hk) hn) (λj hj=>Hw (mk0 g a m z) _ _ _ _ _ RI.out j hj) ⟨_,_,_,(kS (mk0 g a m z) _ _ _ _ RI.out du).2.1⟩);have cw:hH (wr.heap[t+1+1+1]?=A (hK S 55 (0,0))):=O ((Sm.block (t+1+1+1) (aw YP) Y).trans Px);have bd:hH (wr.heap[gl]?=A (hK LC 55 (0,0))):=O ((Sm.block gl gi (aw S9)).trans Z1);have bg:hH (wr.heap[bt]?=A (hK #[T pt nt ct] 52 (0,0))):=O ((Sm.block bt gm gn).trans eq);have Qb:EB0.At wr (T pu nu g6) nl:=EK.At.of_own (E:=EB0) (B:=x0.heap.size) (by rw[<-U6,WM];exact D);obtain⟨-,-,RU⟩:=Qb.cells;obtain⟨g0,o,Zh,a5⟩:=RU Y;subst Zh;obtain⟨⟨kk,s⟩,C,SK⟩:=dS (l:=nl) (j:=i) (by rw[<-U6];exact bk);have d0:wr.cell? ⟨g0,o+i*4,hF⟩=A (I N s):=a5 i _ C 0 _ rfl;have d1:wr.cell? ⟨g0,o+i*4+1,hF⟩=A (I N kk):=a5 i _ C 1 _ rfl;have d2:wr.cell? ⟨g0,o+i*4+2,hF⟩=A (I N 0):=a5 i _ C 2 _ rfl;have d3:wr.cell? ⟨g0,o+i*4+3,hF⟩=A (T hF 0 0):=a5 i _ C 3 _ rfl;have WG:=lv C;rw[WM,RF]at WG;obtain⟨⟨a3,ad⟩,⟨a1,Qe⟩,bb,bB⟩:=Cw hr SY.1 SY.2 WG;obtain⟨q,rfl⟩:=lw (show 0<=kk by omega);obtain⟨Qy,b8⟩:=lw (show 0<=(ofF (aJ g.tree m) s).getD 0 by have:=bB.1;omega);have g1:hH (wJ (aJ g.tree m) s=Qy):=O (by unfold wJ;rw[b8];rfl);rw[b8]at bB;have ev:=O bB;have WT:hH (∀W,aT W (T pt nt ct) (aJ g.tree m)->jb ih 42 #[ic #[T pt nt ct],I N s] W λe w'=>e=ja (jB #[I N (Qy:Int),.bool true])/\ii W W w'):=O (λW hW=>by
   have h:=FC (aJ g.tree m) _ s W hW (by have:=tp g.tree m;have:=SI.out;have:=TW.len;omega) (I64.of Y);rw[b8,bb]at h;exact h)
  have Rf:hH ((nl.take (i+1)).map (dV g a m z seed)=(nl.take i).map (dV g a m z seed)++[dV g a m z seed ((q:Int),s)]):=O (by rw[SK,jX];rfl);have cb:hH (q<10/\1<=q):=O ⟨by omega,by omega⟩;have gv:hH (1<=s/\s<1024):=O ⟨a1,Qe⟩;clear Qb RU a5 C SK WG a3 ad a1 Qe bb bB b8 D Sm
  go_upto_region 26 with fail
  obtain⟨bb,RJ⟩:=J wr.heap.size;have a2:=je wr (hK #[I N s,I N (q:Int),I N 0,T hF 0 0] 73);have d:=af wr (hK #[I N s,I N (q:Int),I N 0,T hF 0 0] 73);have bM:hH (M2<=bb):=O (by rw[RJ];exact PG.row.sz');have RY:hH ((jD pv i cv).ownBlock≠A bb):=O (bU PG.row.own (.inl (jA RJ.symm)));rw[<-RJ]at a2⊢;obtain⟨k0,Ru⟩:=J (wr.alloc (hK #[I N s,I N (q:Int),I N 0,T hF 0 0] 73));rw[<-Ru]at a2 d⊢;have Wt:=O d;have YN:=O (ak PG.row.box d);have YL:=O a2;have V:=ac QX d;have Zt:=aE cs d;have Zu:=aE cu d;have br:=O (bf.below d);have Qv:=Z cw d;have Z4:=Z bd d;have D:=Z bg d;have cx:hH (wr.heap.size=bb):=O RJ.symm;clear a2 d Ru RJ QX cs cu bf cw bd bg d0 d1 d2 d3;have e0:=cell_of (i:=0) YL rfl
  go_upto_region 26 with fail
  refine jG ?_;refine jy rfl 52 _ rfl bt rfl 52 #[T pt nt ct] (0,0) _ D.out underlying52 rfl nG ?_
  go_wp2_with fail
  refine(WT k0 br).mono ?_;rintro e k1 ⟨rfl,d⟩;have Uf:=ac Wt d;have TH:=Z YN d;have Uw:=Z YL d;have OZ:=ac V d;have Ta:=aE Zt d;have Uh:=aE Zu d;have YM:=O (br.below d);have PR:=Z Qv d;have Ue:=Z Z4 d;clear Wt YN YL V Zt Zu br Qv Z4;clear d e0 D;have VD:hH (k1.cell? ⟨bb,0,hF⟩=A (I N s)/\k1.cell? ⟨bb,1,hF⟩=A (I N (q:Int))):=O ⟨cell_of Uw rfl,cell_of Uw rfl⟩;obtain⟨ex,bl⟩:=J (eI seed mD [(q:Int),s]);have cy:ex.length=32:=by rw[bl];exact m0 _ _ _
  obtain⟨EX,bN⟩:=J ((ex.map v8).toArray);obtain⟨bm,bn⟩:=J (mh (mk0 g a m z) mD [(q:Int),s]);obtain⟨u0,bO⟩:∃y:Int,y=((aG 4 (kr ex):Nat):Int):=⟨_,rfl⟩;obtain⟨bd,bo⟩:=J (fW Qy ex bm (bQ z q));have ew:hH (bd.length=48):=O (by rw[bo,lG,dY z QC]);have bq:hH (∀W v,cC W v [(q:Int),s]->cJ W->jb ih 44 #[ic S,hQ ⟨#[98,111,120]⟩,v] W λe w'=>e=ja (ic EX)/\ii W W w'):=O (λW v hv hW=>by
   rw[fm,bN,bl];exact oA seed e9 mD [(q:Int),s] v W hv (C8 G (by have:=gv.out;have:=cb.out;intro x C;simp at C;rcases C with rfl|rfl<;>exact⟨by omega,by omega⟩) av) hW)
  have cz:hH (∀W v QJ,az (·<W.heap.size) W {mk0 g a m z with box:=QJ} ⟨T QE m.length c1,T pq 10 cq,T pv i cv,T hF 0 0⟩->QJ.length<=1000000->cC W v [(q:Int),s]->cJ W->jb ih 45 #[ic ((λv=>(aj (mk0 g a m z) ⟨T QE m.length c1,T pq 10 cq,v,T hF 0 0⟩).toArray) (T pv i cv)),hQ ⟨#[98,111,120]⟩,v] W λe w'=>∃D,e=ja (T (A ⟨D,0,hF⟩) 32 32)/\BytesAt w' (T (A ⟨D,0,hF⟩) 32 32) bm/\ii W W w'):=O (λW v QJ hC hu hv hW=>by
   rw[bn];exact A4 {mk0 g a m z with box:=QJ} _ mD [(q:Int),s] v W G hC hv av ⟨dv,by show(dl z).length<=_;rw[iJ];decide,hu,jC _⟩
    (Ag (c:={mk0 g a m z with box:=QJ}) (nums:=[(q:Int),s]) (by have h1:=U4.fol.1;have h2:=U4.fol.2;exact⟨by show _ <=g.folder;omega,by show g.folder<_;omega⟩) (by have h1:=U4.ep;exact⟨by show _ <=g.epoch+1;omega,by show g.epoch+1<_;omega⟩) (by have:=SY.out;exact⟨by show _ <=a;omega,by show a<_;omega⟩) RI (by have:=gv.out;have:=cb.out;intro x C;simp at C;rcases C with rfl|rfl<;>exact⟨by omega,by omega⟩) av) hW)
  have cA:hH (∀W vh vb,BytesAt W vh bm->BytesAt W vb (bQ z q)->iB W->jb ih 43 #[I N (Qy:Int),ic EX,vh,vb] W λe w'=>∃c,e=ja (jB #[ic #[I N u0,c],I N 0])/\w'.ownsRow W 5 1 c 48 (bd.map v8)/\ii W W w'):=O (λW vh vb h1 h2 h3=>by
   have h:=DG Qy ev ex bm (bQ z q) cy (by rw[bn];unfold mh;rw[dJ];decide) (by rw[dY z QC];decide) vh vb W h1 h2 h3;rw[dY z QC]at h;rw[bN,bO,bo];exact h)
  have Qm:hH (dV g a m z seed ((q:Int),s)=⟨s,(q:Int),u0,bd⟩):=O (by rw[bo,bO,bn,bl,<-g1];rfl);have hq:hH ((ih.info? 31).map (·.size)=A ((λv=>(aj (mk0 g a m z) ⟨T QE m.length c1,T pq 10 cq,v,T hF 0 0⟩).toArray) (T pv i cv)).size):=O (by rw[jl,eA _ _ RI.out du];exact dZ);have hx:decide ((q:Int)<10)=true:=by have:=cb.out;simp;omega
  have hE:(q:Int)<10:=aw cb;have hs:q<10:=aw cb;clear cy bN bn bO bo bl
  go_upto_region 27 with fail
  refine ju ?_;refine aY (λF=>(F.cell? ⟨bb,0,hF⟩=A (I N s)/\F.cell? ⟨bb,1,hF⟩=A (I N (q:Int)))/\F.heap[t+1+1+1]?=A (hK S 55 (0,0))/\F.heap[(t+1+1+1+1)]?=A (hK ((λv=>(aj (mk0 g a m z) ⟨T QE m.length c1,T pq 10 cq,v,T hF 0 0⟩).toArray) (T pv i cv)) 31 (0,0))) (.take 0 (.take 1 (.take 2 (.take 3 (.take 4 (.take 5 (.take 8 (.take 9 (.take 10 (.take 11 (.take 12 (.take 15 (.take 16 (.take 17 (.take 18 (.take 19 (.two 6 13 (.two 7 13 (.one 13 (.one 14 (.one 20 (.take 21 (.take 22 (.take 23 (.take 24 (.one 25 .done)))))))) (.one 7 (.one 14 (.one 20 (.take 21 (.take 22 (.take 23 (.take 24 (.one 25 .done))))))))) (.one 6 (.one 7 (.one 14 (.one 20 (.take 21 (.take 22 (.take 23 (.take 24 (.one 25 .done)))))))))))))))))))))))))) ae ae ae G (λ_ _ _ _ h=>h) ⟨VD,PR,TH⟩ ?_;obtain⟨l0,Pe⟩:=J k1.drew;have d:=aQ k1;rw[<-Pe]at d⊢;have cL:=ac Uf d;have cX:=Z TH d;have c5:=Z Uw d;have QZ:=ac OZ d;have c6:=aE Ta d;have c7:=aE Uh d;have bf:=O (YM.below d);have ba:=Z PR d;have bw:=Z Ue d;have bg:=O (And.intro (cell_below VD.1 d) (cell_below VD.2 d));clear d Pe Uf TH Uw OZ Ta Uh YM PR Ue VD;have Wt:=cL;clear cL;have YN:=cX;clear cX;have YL:=c5;clear c5;have V:=QZ;clear QZ;have Zt:=c6;clear c6;have Zu:=c7;clear c7;have br:=bf;clear bf;have Qv:=ba;clear ba;have Z4:=bw;clear bw;have bs:=bg;clear bg;refine tv ?_
  (refine ay (v:=ic S) rfl ag (λF U=>bJ jr rfl e7 rfl rfl U.2.1) ?_;refine L ?_)
  iterate 4 refine tv ?_
  (refine ay (v:=ic ((λv=>(aj (mk0 g a m z) ⟨T QE m.length c1,T pq 10 cq,v,T hF 0 0⟩).toArray) (T pv i cv))) rfl ag (λF U=>bJ jv rfl hq rfl rfl U.2.2) ?_;refine L ?_)
  iterate 9 refine tv ?_
  apply Cc (.one 14 (.one 20 (.take 21 (.take 22 (.take 23 (.take 24 (.one 25 .done)))))))
  rotate_left
  ·intro SB
   refine gx ?_ ?_
   ·refine ai rfl (λK' u=>?_)
    go_simp;have d:=af l0 (hK #[I N (q:Int),I N s] 3);have Q:=ky l0 (q:Int) s;obtain⟨l1,C⟩:=J (l0.alloc (hK #[I N (q:Int),I N s] 3));rw[<-C]at d Q⊢;obtain⟨bf,hg⟩:=J l0.heap.size;rw[<-hg]at Q⊢;clear hg;have Uf:=ac Wt d;have TH:=Z YN d;have Uw:=Z YL d;have OZ:=ac V d;have Ta:=aE Zt d;have Uh:=aE Zu d;have YM:=O (br.below d);have PR:=Z Qv d;have Ue:=Z Z4 d;have VD:=O (And.intro (cell_below bs.1 d) (cell_below bs.2 d));have bg:=O Q;clear Q C d;refine u _ _ ⟨VD,PR,TH⟩ λ_=>?_
    clear u;refine L ?_;refine gx ?_ ?_
    ·refine ai rfl (λK' u=>?_)
     go_simp;refine(bq l1 _ bg.out (Qa.dig.below OZ)).mono ?_;rintro e l2 ⟨rfl,d⟩;have Rm:=ac Uf d;have TF:=Z TH d;have VC:=Z Uw d;have O4:=ac OZ d;have Ud:=aE Ta d;have Ui:=aE Uh d;have bc:=O (YM.below d);have Px:=Z PR d;have Z1:=Z Ue d;have YO:=O (And.intro (cell_below VD.1 d) (cell_below VD.2 d));have Ug:=O (dt bg d);clear Uf TH Uw OZ Ta Uh YM PR Ue VD bg;clear d;refine u _ _ ⟨YO,Px,TF⟩ λ_=>?_
     clear u;refine L ?_;refine ai rfl (λK' u=>?_);go_simp;have d:=af l2 (hK #[I N (q:Int),I N s] 3);have Q:=ky l2 (q:Int) s;obtain⟨l3,C⟩:=J (l2.alloc (hK #[I N (q:Int),I N s] 3));rw[<-C]at d Q⊢;obtain⟨Zs,hg⟩:=J l2.heap.size;rw[<-hg]at Q⊢;clear hg;have Sk:=ac Rm d;have TG:=Z TF d;have VB:=Z VC d;have O8:=ac O4 d;have TY:=aE Ud d;have TX:=aE Ui d;have bC:=O (bc.below d);have Qo:=Z Px d;have bI:=Z Z1 d;have Z0:=O (And.intro (cell_below YO.1 d) (cell_below YO.2 d));have VF:=O (dt Ug d);clear Rm TF VC O4 Ud Ui bc Px Z1 YO Ug;have US:=O Q;clear Q C d;refine u _ _ ⟨Z0,Qo,TG⟩ λ_=>?_
     clear u;refine L ?_;have hG:=(And.intro Sk (And.intro TG (And.intro VB (And.intro O8 (And.intro TY (And.intro TX (And.intro bC (And.intro Qo (And.intro bI (And.intro Z0 (And.intro VF US)))))))))));exact SB bf Zs l3 hG
    refine ai rfl (λK' u=>?_);go_simp;have d:=af l1 (hK #[I N (q:Int),I N s] 3);have Q:=ky l1 (q:Int) s;obtain⟨l2,C⟩:=J (l1.alloc (hK #[I N (q:Int),I N s] 3));rw[<-C]at d Q⊢;obtain⟨Zs,hg⟩:=J l1.heap.size;rw[<-hg]at Q⊢;clear hg;have Rm:=ac Uf d;have TF:=Z TH d;have VC:=Z Uw d;have O4:=ac OZ d;have Ud:=aE Ta d;have Ui:=aE Uh d;have bc:=O (YM.below d);have Px:=Z PR d;have Z1:=Z Ue d;have YO:=O (And.intro (cell_below VD.1 d) (cell_below VD.2 d));have Ug:=O (dt bg d);clear Uf TH Uw OZ Ta Uh YM PR Ue VD bg;have bh:=O Q;clear Q C d;refine u _ _ ⟨YO,Px,TF⟩ λ_=>?_
    clear u;refine L ?_;refine ai rfl (λK' u=>?_);go_simp;refine(bq l2 _ Ug.out (Qa.dig.below O4)).mono ?_;rintro e l3 ⟨rfl,d⟩;have Sk:=ac Rm d;have TG:=Z TF d;have VB:=Z VC d;have O8:=ac O4 d;have TY:=aE Ud d;have TX:=aE Ui d;have bC:=O (bc.below d);have Qo:=Z Px d;have bI:=Z Z1 d;have Z0:=O (And.intro (cell_below YO.1 d) (cell_below YO.2 d));have VF:=O (dt Ug d);have US:=O (dt bh d);clear Rm TF VC O4 Ud Ui bc Px Z1 YO Ug bh;clear d;refine u _ _ ⟨Z0,Qo,TG⟩ λ_=>?_
    clear u;refine L ?_;have hG:=(And.intro Sk (And.intro TG (And.intro VB (And.intro O8 (And.intro TY (And.intro TX (And.intro bC (And.intro Qo (And.intro bI (And.intro Z0 (And.intro VF US)))))))))));exact SB bf Zs l3 hG
   refine ai rfl (λK' u=>?_);go_simp;have d:=af l0 (hK #[I N (q:Int),I N s] 3);have Q:=ky l0 (q:Int) s;obtain⟨l1,C⟩:=J (l0.alloc (hK #[I N (q:Int),I N s] 3));rw[<-C]at d Q⊢;obtain⟨Zs,hg⟩:=J l0.heap.size;rw[<-hg]at Q⊢;clear hg;have Uf:=ac Wt d;have TH:=Z YN d;have Uw:=Z YL d;have OZ:=ac V d;have Ta:=aE Zt d;have Uh:=aE Zu d;have YM:=O (br.below d);have PR:=Z Qv d;have Ue:=Z Z4 d;have VD:=O (And.intro (cell_below bs.1 d) (cell_below bs.2 d));have c8:=O Q;clear Q C d;refine u _ _ ⟨VD,PR,TH⟩ λ_=>?_
   clear u;refine L ?_;refine ai rfl (λK' u=>?_);go_simp;have d:=af l1 (hK #[I N (q:Int),I N s] 3);have Q:=ky l1 (q:Int) s;obtain⟨l2,C⟩:=J (l1.alloc (hK #[I N (q:Int),I N s] 3));rw[<-C]at d Q⊢;obtain⟨bf,hg⟩:=J l1.heap.size;rw[<-hg]at Q⊢;clear hg;have Rm:=ac Uf d;have TF:=Z TH d;have VC:=Z Uw d;have O4:=ac OZ d;have Ud:=aE Ta d;have Ui:=aE Uh d;have bc:=O (YM.below d);have Px:=Z PR d;have Z1:=Z Ue d;have YO:=O (And.intro (cell_below VD.1 d) (cell_below VD.2 d));have bh:=O (dt c8 d);clear Uf TH Uw OZ Ta Uh YM PR Ue VD c8;have Ug:=O Q;clear Q C d;refine u _ _ ⟨YO,Px,TF⟩ λ_=>?_
   clear u;refine L ?_;refine ai rfl (λK' u=>?_);go_simp;refine(bq l2 _ Ug.out (Qa.dig.below O4)).mono ?_;rintro e l3 ⟨rfl,d⟩;have Sk:=ac Rm d;have TG:=Z TF d;have VB:=Z VC d;have O8:=ac O4 d;have TY:=aE Ud d;have TX:=aE Ui d;have bC:=O (bc.below d);have Qo:=Z Px d;have bI:=Z Z1 d;have Z0:=O (And.intro (cell_below YO.1 d) (cell_below YO.2 d));have US:=O (dt bh d);have VF:=O (dt Ug d);clear Rm TF VC O4 Ud Ui bc Px Z1 YO bh Ug;clear d;refine u _ _ ⟨Z0,Qo,TG⟩ λ_=>?_
   clear u;refine L ?_;have hG:=(And.intro Sk (And.intro TG (And.intro VB (And.intro O8 (And.intro TY (And.intro TX (And.intro bC (And.intro Qo (And.intro bI (And.intro Z0 (And.intro VF US)))))))))));exact SB bf Zs l3 hG
  clear Wt YN YL V Zt Zu br Qv Z4 bs;rintro bf Zs l3 ⟨Sk,TG,VB,O8,TY,TX,bC,Qo,bI,Z0,VF,US⟩;refine ai rfl (λK' u=>?_);go_simp;refine(cz l3 _ _ (MO RI TY TX (PG.later YP Sk) (by rw[jd,jI];have:=U6.out;omega)) (by rw[jd,jI];omega) US (Qa.dig.below O8)).mono ?_;rintro e l4 ⟨gw,rfl,ZW,d⟩;have bT:=O ZW;clear ZW;have c9:=ac Sk d;have b0:=Z TG d;have b1:=Z VB d;have Pf:=ac O8 d;have br:=aE TY d;have bs:=aE TX d;have b4:=O (bC.below d);have QR:=Z Qo d;have bv:=Z bI d;have bu:=O (And.intro (cell_below Z0.1 d) (cell_below Z0.2 d));have db:=O (dt VF d);have dd:=O (dt US d);clear Sk TG VB O8 TY TX bC Qo bI Z0 VF US;clear d;refine u _ _ ⟨bu,QR,b0⟩ λ_=>?_
  clear u;refine L ?_;refine ai rfl (λK' u=>?_);go_simp;refine(cA l4 _ _ bT.out (bytes_of_row bv (λj aa hj=>ec q j aa hs hj) (dY z QC q)) (e8.below Pf)).mono ?_;rintro e l5 ⟨c,rfl,Yh,d⟩;have Qq:hH (bb<l4.heap.size):=O (jf.1 b1).1;obtain⟨ht,e1⟩:=J l4.heap.size;rw[<-e1]at Yh Qq;have dn:=O Yh;obtain⟨pc,R,rfl⟩:=aL Yh;clear Yh;have Z3:=ac c9 d;have b2:=Z b0 d;have b3:=Z b1 d;have Pk:=ac Pf d;have b9:=aE br d;have ca:=aE bs d;have hw:=O (b4.below d);have T5:=Z QR d;have ck:=Z bv d;have dr:=O (And.intro (cell_below bu.1 d) (cell_below bu.2 d));have e2:=O (dt db d);have e3:=O (dt dd d);have e4:=O (bT.below d);clear c9 b0 b1 Pf br bs b4 QR bv bu db dd bT;clear d;refine u _ _ ⟨dr,T5,b2⟩ λ_=>?_
  clear u;refine L ?_;iterate 4 refine tv ?_
  refine ai rfl (λK' u=>?_);rw[if_pos ag];refine ms 71 _ _ rfl bb 2 #[I N u0,T pc 48 R] rfl rfl (lT (o:=2) (n:=2) b3 av) ae (by simp[jn]) ?_;rw[show(#[I N u0,T pc 48 R]:Array hU).toList=[I N u0,T pc 48 R]from rfl];obtain⟨s1,s2⟩:=Cg (i:=2) (x:=I N u0) (y:=T pc 48 R) b3;have s3:ii wr wr (l5.setCells bb 2 [I N u0,T pc 48 R]):=Below.cellsFrom Z3 bb (jA cx) _ _;have b4:=lu (w':=l5.setCells bb 2 [I N u0,T pc 48 R]) dn (λk hk=>s2 k (aw Qq));refine u _ _ ⟨⟨cell_of s1 rfl,cell_of s1 rfl⟩,(s2 (t+1+1+1) (dP bM YP)).trans T5,(s2 (t+1+1+1+1) (dP bM YP)).trans b2⟩ λ_=>?_
  clear u;have b5:hH ((l5.setCells bb 2 [I N u0,T pc 48 R]).heap[bb]?=A (hK #[I N s,I N (q:Int),I N u0,T pc 48 R] 73 (0,0))):=O s1;have b6:hH (bX M2 (t+1+1+1+1) 31 73 4 Bx.cells Bx.body (λv=>(aj (mk0 g a m z) ⟨T QE m.length c1,T pq 10 cq,v,T hF 0 0⟩).toArray) p2 (l5.setCells bb 2 [I N u0,T pc 48 R]) i (T pv i cv) ((nl.take i).map (dV g a m z seed)) us):=O (PG.later YP s3);have b7:hH (ah (λg=>M2<=g/\g<(l5.setCells bb 2 [I N u0,T pc 48 R]).heap.size/\(jD pv i cv).ownBlock≠A g) (l5.setCells bb 2 [I N u0,T pc 48 R]) (T pc 48 R) 1 48 (bd.map v8)):=O (ah.of_own b4 (λg hg=>by
   have h1:=b4.lt g hg;have h2:=Qq.out;have h3:=bM.out;have h4:=cx.out;exact⟨by omega,h1.2,bU PG.row.own (.inl Y)⟩))
  clear s1 s2 s3 b4;generalize l5.setCells bb 2 [I N u0,T pc 48 R]=kc at b5 b6 b7⊢;have e5:=b5;have bu:=b6;have e6:=b7;clear b5 b6 b7;refine L ?_;refine jt ?_;clear Z3 b2 b3 Pk b9 ca hw T5 ck dr dn e4 e2 e3 PG bq cz cA;have S7:=cell_of bu.row.box (kS (mk0 g a m z) (T QE m.length c1) (T pq 10 cq) (T pv i cv) (T hF 0 0) RI du).2.1
  go_upto_region 28 with fail
  refine jG ?_;iterate 2 refine aO ?_
  refine jy rfl 73 _ rfl bb rfl 73 #[I N s,I N (q:Int),I N u0,T pc 48 R] (0,0) _ e5.out underlying73 rfl ae ?_
  go_wp2_with (at_builtin;refine Hid.out ?_)
  refine O ?_;refine js rfl λ_ u=>AM _ _ rfl M2 (T pv i cv) i _ rfl (cZ bu.row.own (af kc _)) _ 1 [I N s,I N (q:Int),I N u0,T pc 48 R] rfl (ei kc [I N s,I N (q:Int),I N u0,T pc 48 R] 73 (0,0) 4 1 1 rfl (jc _)) (by simp[jn]) Y (jk bu.row.sz' (af kc _).size) λv' k9 Pz=>u _ _ ?_
  clear u;have bv:=af kc (hK #[I N s,I N (q:Int),I N u0,T pc 48 R] 73);have YK:=bu.later YP bv;have dr:=(ah.keep e6 (w':=kc.alloc (hK #[I N s,I N (q:Int),I N u0,T pc 48 R] 73)) (λg hg=>bv.block g hg.2.1)).mono (D':=λg=>M2<=g/\g<(kc.alloc (hK #[I N s,I N (q:Int),I N u0,T pc 48 R] 73)).heap.size/\(jD pv i cv).ownBlock≠A g) (λg hg=>⟨hg.1,jg hg.2.1 bv.size,hg.2.2⟩);have QB:=dW YK.row.box Pz.grown (bU YK.row.own (.inr YP));obtain⟨pn,cn,rfl⟩:=aL Pz.own;have TJ:hH (bX M2 (t+1+1+1+1) 31 73 4 Bx.cells Bx.body (λv=>(aj (mk0 g a m z) ⟨T QE m.length c1,T pq 10 cq,v,T hF 0 0⟩).toArray) p2 (k9.setCell ⟨(t+1+1+1+1),37,hF⟩ (T pn (i+1) cn)) (i+1) (T pn (i+1) cn) ((nl.take (i+1)).map (dV g a m z seed)) (us++[T pc 48 R])):=O (by
   rw[Rf,Qm];exact bX.push (x:=(⟨s,(q:Int),u0,bd⟩:Bx)) YK YP (by show ah _ _ _ 1 bd.length (bd.map v8);rw[ew];exact dr) Pz (YQ _ _))
  obtain⟨⟨vo,c3⟩,f3,-,-⟩:=bP (i:=37) (T pn (i+1) cn) QB (by rw[(kS (mk0 g a m z) (T QE m.length c1) (T pq 10 cq) (T pv i cv) (T hF 0 0) RI du).2.2.2];decide);clear YK dr Pz QB S7 bv
  go_wp2_with fail
  go_roundw
  case rel=>exact⟨i+1,pn,cn,us++[T pc 48 R],by go_num,by omega,TJ⟩
  case measure=>simp only[jo];omega
 obtain rfl:nu=i:=Y;have hd:decide ((nu:Int)<(nu:Int))=false:=by simp
 have PX:decide (nu<nu)=false:=by simp
 rename hZ=>p3;obtain⟨pb,cb,cj,hs⟩:∃(p:Option jw) (c:Nat),p=pv/\c=cv:=⟨_,_,rfl,rfl⟩;subst cj;subst hs;have bA:nl.take nu=nl:=jN (by rw[U6];exact jc _);rw[bA]at PG;have Sm:=PG.row.but;have PM:=O PG.row.box;have O8:hH (ii w w p3):=O (O4.trans (PG.row.but.below (n:=w.heap.size) (by rw[HG];omega) (dP YP HG)));have TY:=O (gU Ud (λk a3 ad=>Sm.block k (by rw[Qk];exact ad) (aw bK)));have TX:=O (gU Ui (λk a3 ad=>Sm.block k (by rw[Qk];exact ad) (aw Qd)));have Qo:hH (p3.heap[t+1+1+1]?=A (hK S 55 (0,0))):=O ((Sm.block (t+1+1+1) (aw YP) Y).trans Px);have PL:hH (p3.heap[(t+1+1+1+1+1)]?=A (hK SA 55 (0,0))):=O ((Sm.block (t+1+1+1+1+1) (aw gf) Y).trans PC);have Rk:=PG;clear Sm bA PG O4 Ud Ui Px PC Pu Z1 eq bc YE bk hi YQ S9 ec gi gm gn;have s:hH (∀W,EC.At W (T pc nc R) m->jb ih 46 #[I N a,T pc nc R] W λe w'=>∃aa,e=ja aa/\EC.At w' aa (di a m)/\ii W W w'):=O (λW hW=>uY a m _ W hW TW.once dv);obtain⟨wl,q⟩:=J (di a m);rw[<-q]at s;have e0:=O q;have gi:hH (wl.length<=64):=O (by rw[q];have:=zv a m;have:=TW.len;omega);clear q
 go_upto_region 30 with fail
 go_wp2_with fail
 refine(s p3 ((EK.At.of_sl (E:=EC) Ws).below O8)).mono ?_;rintro e p4 ⟨aa,rfl,hu,d⟩;have bI:=O hu;obtain⟨pw,hw,rfl,-,-⟩:=hu.form;clear hu;have QD:=Z PM d;have Qs:=Z PL d;have QR:=Z Qo d;have Pf:=ac O8 d;have br:=aE TY d;have bs:=aE TX d;have Qt:=O (Rk.later YP d);clear PM PL Qo O8 TY TX Rk;clear d;obtain⟨nw,q⟩:=J wl.length;rw[<-q]at bI gi⊢;have Tu:=O q;clear q s;obtain⟨M3,q⟩:=J p4.heap.size;have QI:=O q;have bc:hH ((t+1+1+1+1)<M3):=O (by rw[q];exact(jf.1 QD).1);have ec:hH ((t+1+1+1+1+1)<M3):=O (by rw[q];exact(jf.1 Qs).1);have eq:hH (iw (λk=>M2<=k/\k<M3) p4 (T pb nu cb) (nl.map (dV g a m z seed))):=O (by
  obtain⟨s,h1,h2⟩:=Qt.slice (by rw[jd];exact U6) (D:=λk=>M2<=k/\k<M3) (λk a3 ad=>⟨a3,by rw[q];exact ad⟩);exact⟨s,h1,h2⟩)
 have hx:hH (∀aa v,((λv=>(aj (mk0 g a m z) ⟨T QE m.length c1,T pq 10 cq,T pb nu cb,v⟩).toArray) aa).setIfInBounds 38 v=(λv=>(aj (mk0 g a m z) ⟨T QE m.length c1,T pq 10 cq,T pb nu cb,v⟩).toArray) v):=O (λaa v=>uT (mk0 g a m z) _ _ _ _ _ RI.out);have s:hH (bX M3 (t+1+1+1+1) 31 75 3 Wl.cells Wl.body (λv=>(aj (mk0 g a m z) ⟨T QE m.length c1,T pq 10 cq,T pb nu cb,v⟩).toArray) p4 p4 0 (T hF 0 0) ((wl.take 0).map (fB g a m z init seed)) []):=O (bX.start QD (jA q));clear q Qt
 go_wp2_with fail
 go_loopw [160] (λv wr=>∃(i:Nat) (pv:Option jw) (cv:Nat) (us:List hU),v=I N i/\i<=nw/\hH (bX M3 (t+1+1+1+1) 31 75 3 Wl.cells Wl.body (λv=>(aj (mk0 g a m z) ⟨T QE m.length c1,T pq 10 cq,T pb nu cb,v⟩).toArray) p4 wr i (T pv i cv) ((wl.take i).map (fB g a m z init seed)) us)) (λv _=>nw-(jo v).toNat)
 case atStart=>exact⟨0,hF,0,[],rfl,jC _,s⟩
 clear s;obtain⟨i,pv,cv,us,rfl,hi,PG⟩:=hrel;have hE:=gi.out
 by_cases bk:i<nw
 ·have ea:=ap ((i:Int)<(nw:Int))
  have eb:=ap (i<nw);have gb:(i:Int)<(nw:Int):=Y;have QX:hH (ii w w wr):=O (Pf.trans (PG.row.but.below (n:=w.heap.size) (by rw[HG];omega) (dP bc HG)));have Sm:=PG.row.but;have cs:=O (gU br (λk a3 ad=>Sm.block k (by rw[QI];exact ad) (aw bK)));have cu:=O (gU bs (λk a3 ad=>Sm.block k (by rw[QI];exact ad) (aw Qd)));have gm:hH (EC.At wr (T pw nw hw) wl):=O (Lk bI (j:=38) QD PG.row.box (λk hk hn=>Sm.block k (by rw[QI];exact hk) hn) (λj hj=>FD (mk0 g a m z) _ _ _ _ _ RI.out j hj) ⟨_,_,_,(kS (mk0 g a m z) _ _ _ _ RI.out du).2.2.1⟩);have cw:hH (wr.heap[t+1+1+1]?=A (hK S 55 (0,0))):=O ((Sm.block (t+1+1+1) (aw bc) Y).trans QR);have gn:hH (wr.heap[(t+1+1+1+1+1)]?=A (hK SA 55 (0,0))):=O ((Sm.block (t+1+1+1+1+1) ec Y).trans Qs);have gv:hH (iw (·<wr.heap.size) wr (T pb nu cb) (nl.map (dV g a m z seed))):=O (eq.keep (λk hk=>Sm.block k hk.2 (aw YP)) (λk hk=>by have:=PG.row.sz';omega));obtain⟨-,-,RU⟩:=gm.cells;obtain⟨g0,o,hn,a5⟩:=RU Y;subst hn;obtain⟨⟨yk,q,yp,yv,yc⟩,C,SK⟩:=dS (l:=wl) (j:=i) (by rw[<-Tu];exact bk);have d0:wr.cell? ⟨g0,o+i*5,hF⟩=A (I N yk):=a5 i _ C 0 _ rfl;have d1:wr.cell? ⟨g0,o+i*5+1,hF⟩=A (I N q):=a5 i _ C 1 _ rfl;have d2:wr.cell? ⟨g0,o+i*5+2,hF⟩=A (I N yp):=a5 i _ C 2 _ rfl;have d3:wr.cell? ⟨g0,o+i*5+3,hF⟩=A (I N yv):=a5 i _ C 3 _ rfl;have d4:wr.cell? ⟨g0,o+i*5+4,hF⟩=A (I N yc):=a5 i _ C 4 _ rfl;have WG:=lv C;rw[e0]at WG;obtain⟨VU,P6,Zd⟩:=Ek.1 WG;have s:=TW.each _ VU;have bB:aN yp:=by
   rcases s.2 with⟨_,b,_,_⟩|⟨a,_⟩|⟨_,b,_⟩
   ·exact b
   ·exact absurd a P6
   exact b
  have bC:0<=q/\q<512:=s.1;obtain⟨Qy,b8⟩:=lw (show 0<=yp by have:=bB.1;omega);subst b8;have ev:=O bB;have g1:=O bC;have Rf:hH ((wl.take (i+1)).map (fB g a m z init seed)=(wl.take i).map (fB g a m z init seed)++[fB g a m z init seed ⟨yk,q,(Qy:Int),yv,yc⟩]):=O (by rw[SK,jX];rfl);clear RU a5 C SK WG VU P6 Zd s bB bC Sm
  go_upto_region 34 with fail
  obtain⟨bb,RJ⟩:=J wr.heap.size;have a2:=je wr (hK #[I N yk,I N q,I N (Qy:Int),I N yv,I N yc] 59);have d:=af wr (hK #[I N yk,I N q,I N (Qy:Int),I N yv,I N yc] 59);have s:=je (wr.alloc (hK #[I N yk,I N q,I N (Qy:Int),I N yv,I N yc] 59)) (hK #[I N q,I N 0,T hF 0 0] 75);have a5:=af (wr.alloc (hK #[I N yk,I N q,I N (Qy:Int),I N yv,I N yc] 59)) (hK #[I N q,I N 0,T hF 0 0] 75);rw[jm]at s;replace a2:=ak a2 a5;replace d:=d.trans (a5.mono d.size);have bM:hH (M3<=bb):=O (by rw[RJ];exact PG.row.sz');rw[<-RJ]at a2 s⊢;obtain⟨k0,Ru⟩:=J ((wr.alloc (hK #[I N yk,I N q,I N (Qy:Int),I N yv,I N yc] 59)).alloc (hK #[I N q,I N 0,T hF 0 0] 75));rw[<-Ru]at a2 s d⊢;have Wt:=O d;have YN:=O (ak PG.row.box d);have bB:=O a2;have YL:=O s;have V:=ac QX d;have Zt:=aE cs d;have Zu:=aE cu d;have Uc:=O (gv.below d);have Qv:=Z cw d;have bC:=Z gn d;have cx:hH (wr.heap.size=bb):=O RJ.symm;clear a2 s d a5 Ru RJ QX cs cu gm cw gn gv d0 d1 d2 d3 d4;obtain⟨ex,bl⟩:=J (eI seed mI [q]);have cy:ex.length=32:=by rw[bl];exact m0 _ _ _
  obtain⟨EX,bN⟩:=J ((ex.map v8).toArray);obtain⟨bm,bn⟩:=J (mh (mk0 g a m z) mI [q]);obtain⟨u0,bO⟩:∃y:Int,y=((aG 4 (kr ex):Nat):Int):=⟨_,rfl⟩;obtain⟨bd,bo⟩:=J (fW Qy ex bm (fD g z init));have ew:hH (bd.length=48):=O (by rw[bo,lG,kv]);have bq:hH (∀W v,cC W v [q]->cJ W->jb ih 44 #[ic S,hQ ⟨#[119,101,108,99,111,109,101]⟩,v] W λe w'=>e=ja (ic EX)/\ii W W w'):=O (λW v hv hW=>by
   rw[fm,bN,bl];exact oA seed e9 mI [q] v W hv (C8 G (by have:=g1.out;intro x C;simp at C;rcases C with rfl;exact⟨by omega,by omega⟩) av) hW)
  have cz:hH (∀W v s,az (·<W.heap.size) W {mk0 g a m z with box:=nl.map (dV g a m z seed),wel:=s} ⟨T QE m.length c1,T pq 10 cq,T pb nu cb,T pv i cv⟩->s.length<=1000000->cC W v [q]->cJ W->jb ih 45 #[ic ((λv=>(aj (mk0 g a m z) ⟨T QE m.length c1,T pq 10 cq,T pb nu cb,v⟩).toArray) (T pv i cv)),hQ ⟨#[119,101,108,99,111,109,101]⟩,v] W λe w'=>∃D,e=ja (T (A ⟨D,0,hF⟩) 32 32)/\BytesAt w' (T (A ⟨D,0,hF⟩) 32 32) bm/\ii W W w'):=O (λW v s hC hu hv hW=>by
   rw[bn];exact A4 {mk0 g a m z with box:=nl.map (dV g a m z seed),wel:=s} _ mI [q] v W G hC hv av ⟨dv,by show(dl z).length<=_;rw[iJ];decide,by show(nl.map (dV g a m z seed)).length<=_;rw[jd,<-U6];have:=gp.out;omega,hu⟩
    (Ag (c:={mk0 g a m z with box:=nl.map (dV g a m z seed),wel:=s}) (nums:=[q]) (by have h1:=U4.fol.1;have h2:=U4.fol.2;exact⟨by show _ <=g.folder;omega,by show g.folder<_;omega⟩) (by have h1:=U4.ep;exact⟨by show _ <=g.epoch+1;omega,by show g.epoch+1<_;omega⟩) (by have:=SY.out;exact⟨by show _ <=a;omega,by show a<_;omega⟩) RI (by have:=g1.out;intro x C;simp at C;rcases C with rfl;exact⟨by omega,by omega⟩) av) hW)
  have cA:hH (∀W vh vb,BytesAt W vh bm->BytesAt W vb (fD g z init)->iB W->jb ih 43 #[I N (Qy:Int),ic EX,vh,vb] W λe w'=>∃c,e=ja (jB #[ic #[I N u0,c],I N 0])/\w'.ownsRow W 5 1 c 48 (bd.map v8)/\ii W W w'):=O (λW vh vb h1 h2 h3=>by
   have h:=DG Qy ev ex bm (fD g z init) cy (by rw[bn];unfold mh;rw[dJ];decide) (by rw[kv];decide) vh vb W h1 h2 h3;rw[kv]at h;rw[bN,bO,bo];exact h)
  have cs:hH (fB g a m z init seed ⟨yk,q,(Qy:Int),yv,yc⟩=⟨q,u0,bd⟩):=O (by rw[bo,bO,bn,bl];rfl);have cu:hH ((ih.info? 31).map (·.size)=A ((λv=>(aj (mk0 g a m z) ⟨T QE m.length c1,T pq 10 cq,T pb nu cb,v⟩).toArray) (T pv i cv)).size):=O (by rw[jl,eA _ _ RI.out du];exact dZ);clear cy bN bn bO bo bl
  go_upto_region 34 with fail
  refine ju ?_;refine aY (λF=>F.heap[bb]?=A (hK #[I N yk,I N q,I N (Qy:Int),I N yv,I N yc] 59 (0,0))/\F.heap[t+1+1+1]?=A (hK S 55 (0,0))/\F.heap[(t+1+1+1+1)]?=A (hK ((λv=>(aj (mk0 g a m z) ⟨T QE m.length c1,T pq 10 cq,T pb nu cb,v⟩).toArray) (T pv i cv)) 31 (0,0))) (.take 0 (.take 1 (.take 2 (.take 3 (.take 4 (.take 7 (.take 8 (.take 9 (.take 12 (.two 5 10 (.two 6 10 (.one 10 (.one 11 (.one 13 (.take 14 (.take 15 (.take 16 (.take 17 (.one 18 .done)))))))) (.one 6 (.one 11 (.one 13 (.take 14 (.take 15 (.take 16 (.take 17 (.one 18 .done))))))))) (.one 5 (.one 6 (.one 11 (.one 13 (.take 14 (.take 15 (.take 16 (.take 17 (.one 18 .done))))))))))))))))))) ae ae ae G (λ_ _ _ _ h=>h) ⟨bB,Qv,YN⟩ ?_;obtain⟨l0,Pe⟩:=J k0.drew;have d:=aQ k0;rw[<-Pe]at d⊢;have cL:=ac Wt d;have cX:=Z YN d;have s:=Z bB d;have c5:=Z YL d;have QZ:=ac V d;have c6:=aE Zt d;have c7:=aE Zu d;have a2:=O (Uc.below d);have ba:=Z Qv d;have a5:=Z bC d;clear d Pe Wt YN bB YL V Zt Zu Uc Qv bC;have Wt:=cL;clear cL;have YN:=cX;clear cX;have bB:=s;clear s;have YL:=c5;clear c5;have V:=QZ;clear QZ;have Zt:=c6;clear c6;have Zu:=c7;clear c7;have Uc:=a2;clear a2;have Qv:=ba;clear ba;have bC:=a5;clear a5;iterate 2 refine sG ?_
  (refine ay (v:=ic S) rfl ag (λF U=>bJ jr rfl e7 rfl rfl U.2.1) ?_;refine L ?_)
  iterate 2 refine sG ?_
  (refine ay (v:=ic ((λv=>(aj (mk0 g a m z) ⟨T QE m.length c1,T pq 10 cq,T pb nu cb,v⟩).toArray) (T pv i cv))) rfl ag (λF U=>bJ jv rfl cu rfl rfl U.2.2) ?_;refine L ?_)
  iterate 3 refine sG ?_
  apply Cc (.one 11 (.one 13 (.take 14 (.take 15 (.take 16 (.take 17 (.one 18 .done)))))))
  rotate_left
  ·intro SB
   refine gx ?_ ?_
   ·refine ai rfl (λK' u=>?_)
    go_simp;have d:=af l0 (hK #[I N q] 3);have Q:=ma l0 q;obtain⟨l1,C⟩:=J (l0.alloc (hK #[I N q] 3));rw[<-C]at d Q⊢;obtain⟨bf,hg⟩:=J l0.heap.size;rw[<-hg]at Q⊢;clear hg;have Uf:=ac Wt d;have TH:=Z YN d;have a5:=Z bB d;have Uw:=Z YL d;have OZ:=ac V d;have Ta:=aE Zt d;have Uh:=aE Zu d;have UO:=O (Uc.below d);have PR:=Z Qv d;have bo:=Z bC d;have bg:=O Q;clear Q C d;refine u _ _ ⟨a5,PR,TH⟩ λ_=>?_
    clear u;refine L ?_;refine gx ?_ ?_
    ·refine ai rfl (λK' u=>?_)
     go_simp;refine(bq l1 _ bg.out (Qa.dig.below OZ)).mono ?_;rintro e l2 ⟨rfl,d⟩;have Rm:=ac Uf d;have TF:=Z TH d;have s:=Z a5 d;have VC:=Z Uw d;have O4:=ac OZ d;have Ud:=aE Ta d;have Ui:=aE Uh d;have Q2:=O (UO.below d);have Px:=Z PR d;have bl:=Z bo d;have Ug:=O (dt bg d);clear Uf TH a5 Uw OZ Ta Uh UO PR bo bg;clear d;refine u _ _ ⟨s,Px,TF⟩ λ_=>?_
     clear u;refine L ?_;refine ai rfl (λK' u=>?_);go_simp;have d:=af l2 (hK #[I N q] 3);have Q:=ma l2 q;obtain⟨l3,C⟩:=J (l2.alloc (hK #[I N q] 3));rw[<-C]at d Q⊢;obtain⟨Zs,hg⟩:=J l2.heap.size;rw[<-hg]at Q⊢;clear hg;have Sk:=ac Rm d;have TG:=Z TF d;have a2:=Z s d;have VB:=Z VC d;have O8:=ac O4 d;have TY:=aE Ud d;have TX:=aE Ui d;have Rk:=O (Q2.below d);have Qo:=Z Px d;have bn:=Z bl d;have VF:=O (dt Ug d);clear Rm TF s VC O4 Ud Ui Q2 Px bl Ug;have US:=O Q;clear Q C d;refine u _ _ ⟨a2,Qo,TG⟩ λ_=>?_
     clear u;refine L ?_;have hG:=(And.intro Sk (And.intro TG (And.intro a2 (And.intro VB (And.intro O8 (And.intro TY (And.intro TX (And.intro Rk (And.intro Qo (And.intro bn (And.intro VF US)))))))))));exact SB bf Zs l3 hG
    refine ai rfl (λK' u=>?_);go_simp;have d:=af l1 (hK #[I N q] 3);have Q:=ma l1 q;obtain⟨l2,C⟩:=J (l1.alloc (hK #[I N q] 3));rw[<-C]at d Q⊢;obtain⟨Zs,hg⟩:=J l1.heap.size;rw[<-hg]at Q⊢;clear hg;have Rm:=ac Uf d;have TF:=Z TH d;have s:=Z a5 d;have VC:=Z Uw d;have O4:=ac OZ d;have Ud:=aE Ta d;have Ui:=aE Uh d;have Q2:=O (UO.below d);have Px:=Z PR d;have bl:=Z bo d;have Ug:=O (dt bg d);clear Uf TH a5 Uw OZ Ta Uh UO PR bo bg;have bh:=O Q;clear Q C d;refine u _ _ ⟨s,Px,TF⟩ λ_=>?_
    clear u;refine L ?_;refine ai rfl (λK' u=>?_);go_simp;refine(bq l2 _ Ug.out (Qa.dig.below O4)).mono ?_;rintro e l3 ⟨rfl,d⟩;have Sk:=ac Rm d;have TG:=Z TF d;have a2:=Z s d;have VB:=Z VC d;have O8:=ac O4 d;have TY:=aE Ud d;have TX:=aE Ui d;have Rk:=O (Q2.below d);have Qo:=Z Px d;have bn:=Z bl d;have VF:=O (dt Ug d);have US:=O (dt bh d);clear Rm TF s VC O4 Ud Ui Q2 Px bl Ug bh;clear d;refine u _ _ ⟨a2,Qo,TG⟩ λ_=>?_
    clear u;refine L ?_;have hG:=(And.intro Sk (And.intro TG (And.intro a2 (And.intro VB (And.intro O8 (And.intro TY (And.intro TX (And.intro Rk (And.intro Qo (And.intro bn (And.intro VF US)))))))))));exact SB bf Zs l3 hG
   refine ai rfl (λK' u=>?_);go_simp;have d:=af l0 (hK #[I N q] 3);have Q:=ma l0 q;obtain⟨l1,C⟩:=J (l0.alloc (hK #[I N q] 3));rw[<-C]at d Q⊢;obtain⟨Zs,hg⟩:=J l0.heap.size;rw[<-hg]at Q⊢;clear hg;have Uf:=ac Wt d;have TH:=Z YN d;have a5:=Z bB d;have Uw:=Z YL d;have OZ:=ac V d;have Ta:=aE Zt d;have Uh:=aE Zu d;have UO:=O (Uc.below d);have PR:=Z Qv d;have bo:=Z bC d;have c8:=O Q;clear Q C d;refine u _ _ ⟨a5,PR,TH⟩ λ_=>?_
   clear u;refine L ?_;refine ai rfl (λK' u=>?_);go_simp;have d:=af l1 (hK #[I N q] 3);have Q:=ma l1 q;obtain⟨l2,C⟩:=J (l1.alloc (hK #[I N q] 3));rw[<-C]at d Q⊢;obtain⟨bf,hg⟩:=J l1.heap.size;rw[<-hg]at Q⊢;clear hg;have Rm:=ac Uf d;have TF:=Z TH d;have s:=Z a5 d;have VC:=Z Uw d;have O4:=ac OZ d;have Ud:=aE Ta d;have Ui:=aE Uh d;have Q2:=O (UO.below d);have Px:=Z PR d;have bl:=Z bo d;have bh:=O (dt c8 d);clear Uf TH a5 Uw OZ Ta Uh UO PR bo c8;have Ug:=O Q;clear Q C d;refine u _ _ ⟨s,Px,TF⟩ λ_=>?_
   clear u;refine L ?_;refine ai rfl (λK' u=>?_);go_simp;refine(bq l2 _ Ug.out (Qa.dig.below O4)).mono ?_;rintro e l3 ⟨rfl,d⟩;have Sk:=ac Rm d;have TG:=Z TF d;have a2:=Z s d;have VB:=Z VC d;have O8:=ac O4 d;have TY:=aE Ud d;have TX:=aE Ui d;have Rk:=O (Q2.below d);have Qo:=Z Px d;have bn:=Z bl d;have US:=O (dt bh d);have VF:=O (dt Ug d);clear Rm TF s VC O4 Ud Ui Q2 Px bl bh Ug;clear d;refine u _ _ ⟨a2,Qo,TG⟩ λ_=>?_
   clear u;refine L ?_;have hG:=(And.intro Sk (And.intro TG (And.intro a2 (And.intro VB (And.intro O8 (And.intro TY (And.intro TX (And.intro Rk (And.intro Qo (And.intro bn (And.intro VF US)))))))))));exact SB bf Zs l3 hG
  clear Wt YN bB YL V Zt Zu Uc Qv bC;rintro bf Zs l3 ⟨Sk,TG,a2,VB,O8,TY,TX,Rk,Qo,bn,VF,US⟩;refine ai rfl (λK' u=>?_);go_simp;refine(cz l3 _ _ (M9 RI TY TX Rk (PG.later bc Sk) (by rw[jd,jI];have:=Tu.out;omega)) (by rw[jd,jI];omega) US (Qa.dig.below O8)).mono ?_;rintro e l4 ⟨gw,rfl,ZW,d⟩;have bT:=O ZW;clear ZW;have c9:=ac Sk d;have b0:=Z TG d;have s:=Z a2 d;have b1:=Z VB d;have Pf:=ac O8 d;have br:=aE TY d;have bs:=aE TX d;have Qt:=O (Rk.below d);have QR:=Z Qo d;have a5:=Z bn d;have db:=O (dt VF d);have dd:=O (dt US d);clear Sk TG a2 VB O8 TY TX Rk Qo bn VF US;clear d;refine u _ _ ⟨s,QR,b0⟩ λ_=>?_
  clear u;refine L ?_;refine ai rfl (λK' u=>?_);go_simp;refine(cA l4 _ _ bT.out (bytes_of_row a5 (λj aa hj=>by rw[em,ow];simpa using hj) (kv _ _ _)) (e8.below Pf)).mono ?_;rintro e l5 ⟨c,rfl,Yh,d⟩;have Qq:hH (bb+1<l4.heap.size):=O (jf.1 b1).1;obtain⟨ht,e1⟩:=J l4.heap.size;rw[<-e1]at Yh Qq;have dn:=O Yh;obtain⟨pc,R,rfl⟩:=aL Yh;clear Yh;have Z3:=ac c9 d;have b2:=Z b0 d;have bg:=Z s d;have b3:=Z b1 d;have Pk:=ac Pf d;have b9:=aE br d;have ca:=aE bs d;have Si:=O (Qt.below d);have T5:=Z QR d;have bh:=Z a5 d;have e2:=O (dt db d);have e3:=O (dt dd d);have e4:=O (bT.below d);clear c9 b0 s b1 Pf br bs Qt QR a5 db dd bT;clear d;refine u _ _ ⟨bg,T5,b2⟩ λ_=>?_
  clear u;refine L ?_;iterate 4 refine sG ?_
  refine ai rfl (λK' u=>?_);rw[if_pos ag];refine ms 71 _ _ rfl (bb+1) 1 #[I N u0,T pc 48 R] rfl rfl (lT (o:=1) (n:=2) b3 av) ae (by simp[jn]) ?_;rw[show(#[I N u0,T pc 48 R]:Array hU).toList=[I N u0,T pc 48 R]from rfl];obtain⟨s1,s2⟩:=Cg (i:=1) (x:=I N u0) (y:=T pc 48 R) b3;have s3:ii wr wr (l5.setCells (bb+1) 1 [I N u0,T pc 48 R]):=Below.cellsFrom Z3 (bb+1) (by rw[cx];omega) _ _;have b4:=lu (w':=l5.setCells (bb+1) 1 [I N u0,T pc 48 R]) dn (λk hk=>s2 k (aw Qq));refine u _ _ ⟨(s2 bb Y).trans bg,(s2 (t+1+1+1) (dP bM bc)).trans T5,(s2 (t+1+1+1+1) (dP bM bc)).trans b2⟩ λ_=>?_
  clear u;have b5:hH ((l5.setCells (bb+1) 1 [I N u0,T pc 48 R]).heap[bb+1]?=A (hK #[I N q,I N u0,T pc 48 R] 75 (0,0))):=O s1;have b6:hH (bX M3 (t+1+1+1+1) 31 75 3 Wl.cells Wl.body (λv=>(aj (mk0 g a m z) ⟨T QE m.length c1,T pq 10 cq,T pb nu cb,v⟩).toArray) p4 (l5.setCells (bb+1) 1 [I N u0,T pc 48 R]) i (T pv i cv) ((wl.take i).map (fB g a m z init seed)) us):=O (PG.later bc s3);have b7:hH (ah (λg=>M3<=g/\g<(l5.setCells (bb+1) 1 [I N u0,T pc 48 R]).heap.size/\(jD pv i cv).ownBlock≠A g) (l5.setCells (bb+1) 1 [I N u0,T pc 48 R]) (T pc 48 R) 1 48 (bd.map v8)):=O (ah.of_own b4 (λg hg=>by
   have h1:=b4.lt g hg;have h2:=Qq.out;have h3:=bM.out;have h4:=cx.out;exact⟨by omega,h1.2,bU PG.row.own (.inl Y)⟩))
  clear s1 s2 s3 b4;generalize l5.setCells (bb+1) 1 [I N u0,T pc 48 R]=kc at b5 b6 b7⊢;have e5:=b5;have bu:=b6;have e6:=b7;clear b5 b6 b7;refine L ?_;refine jt ?_;clear Z3 b2 bg b3 Pk b9 ca Si T5 bh dn e4 e2 e3 PG bq cz cA;have s:=cell_of bu.row.box (kS (mk0 g a m z) (T QE m.length c1) (T pq 10 cq) (T pb nu cb) (T pv i cv) RI du).2.2.1
  go_upto_region 35 with fail
  refine jG ?_;iterate 2 refine aO ?_
  refine jy rfl 75 _ rfl (bb+1) rfl 75 #[I N q,I N u0,T pc 48 R] (0,0) _ e5.out underlying75 rfl ae ?_
  go_wp2_with (at_builtin;refine Hid.out ?_)
  refine O ?_;refine js rfl λ_ u=>zV _ _ rfl M3 (T pv i cv) i _ rfl (cZ bu.row.own (af kc _)) _ 1 [I N q,I N u0,T pc 48 R] rfl (ei kc [I N q,I N u0,T pc 48 R] 75 (0,0) 3 1 1 rfl (jc _)) (by simp[jn]) Y (jk bu.row.sz' (af kc _).size) λv' k9 Pz=>u _ _ ?_
  clear u;have bv:=af kc (hK #[I N q,I N u0,T pc 48 R] 75);have YK:=bu.later bc bv;have dr:=(ah.keep e6 (w':=kc.alloc (hK #[I N q,I N u0,T pc 48 R] 75)) (λg hg=>bv.block g hg.2.1)).mono (D':=λg=>M3<=g/\g<(kc.alloc (hK #[I N q,I N u0,T pc 48 R] 75)).heap.size/\(jD pv i cv).ownBlock≠A g) (λg hg=>⟨hg.1,jg hg.2.1 bv.size,hg.2.2⟩);have QB:=dW YK.row.box Pz.grown (bU YK.row.own (.inr bc));obtain⟨pn,cn,rfl⟩:=aL Pz.own;have TJ:hH (bX M3 (t+1+1+1+1) 31 75 3 Wl.cells Wl.body (λv=>(aj (mk0 g a m z) ⟨T QE m.length c1,T pq 10 cq,T pb nu cb,v⟩).toArray) p4 (k9.setCell ⟨(t+1+1+1+1),38,hF⟩ (T pn (i+1) cn)) (i+1) (T pn (i+1) cn) ((wl.take (i+1)).map (fB g a m z init seed)) (us++[T pc 48 R])):=O (by
   rw[Rf,cs];exact bX.push (x:=(⟨q,u0,bd⟩:Wl)) YK bc (by show ah _ _ _ 1 bd.length (bd.map v8);rw[ew];exact dr) Pz (hx _ _))
  obtain⟨⟨vo,c3⟩,f3,-,-⟩:=bP (i:=38) (T pn (i+1) cn) QB (by rw[(kS (mk0 g a m z) (T QE m.length c1) (T pq 10 cq) (T pb nu cb) (T pv i cv) RI du).2.2.2];decide);clear YK dr Pz QB s bv
  go_wp2_with fail
  go_roundw
  case rel=>exact⟨i+1,pn,cn,us++[T pc 48 R],by go_num,by omega,TJ⟩
  case measure=>simp only[jo];omega
 obtain rfl:nw=i:=Y;have ea:decide ((nw:Int)<(nw:Int))=false:=by simp
 have eb:decide (nw<nw)=false:=by simp
 rename hZ=>p5;obtain⟨pe,bT,b0,YI⟩:∃(p:Option jw) (c:Nat),p=pv/\c=cv:=⟨_,_,rfl,rfl⟩;subst b0;subst YI;have bA:wl.take nw=wl:=jN (by rw[Tu];exact jc _);rw[bA]at PG;have Sm:=PG.row.but;have Pk:hH (ii w w p5):=O (Pf.trans (PG.row.but.below (n:=w.heap.size) (by rw[HG];omega) (dP bc HG)));have b9:=gU br (λk a3 ad=>Sm.block k (by rw[QI];exact ad) (aw bK));have ca:=gU bs (λk a3 ad=>Sm.block k (by rw[QI];exact ad) (aw Qd));have Sz:hH (p5.heap[(t+1+1+1+1+1)]?=A (hK SA 55 (0,0))):=O ((Sm.block (t+1+1+1+1+1) ec Y).trans Qs);have bh:iw (λk=>t+6<=k/\k<p5.heap.size) p5 (T pb nu cb) (nl.map (dV g a m z seed)):=eq.keep (λk hk=>Sm.block k hk.2 (aw YP)) (λk hk=>⟨by have:=gf.out;omega,by have:=PG.row.sz';omega⟩);have bl:=PG.slice (by rw[jd];exact Tu) (D:=λk=>t+6<=k/\k<p5.heap.size) (λk h1 h2=>⟨by have:=ec.out;omega,h2⟩);obtain⟨q,hq⟩:∃y:CQ,y=⟨T QE m.length c1,T pq 10 cq,T pb nu cb,T pe nw bT⟩:=⟨_,rfl⟩;have bu:hH (az (λk=>t+6<=k/\k<p5.heap.size) p5 (mk1 g a m z init seed) q):=O (by
  rw[WM,RF]at bh;rw[e0]at bl;rw[hq];exact Gh RI b9 ca bh bl (λk h1 h2=>⟨by have:=bK.out;omega,h2⟩) (λk h1 h2=>⟨by have:=cr.out;omega,h2⟩))
 obtain⟨Y1,ad⟩:=J ((aj (mk1 g a m z init seed) q).toArray);have VE:hH (p5.heap[(t+1+1+1+1)]?=A (hK Y1 31 (0,0))):=O (by rw[ad,hq,Of];exact PG.row.box);have bv:=Dn (x:=X) (init:=init) (seed:=seed) cd.symm (by rw[<-RE];exact g5) g8 QC RI;obtain⟨bB,bC⟩:=IC bv;have bM:=O bB.encOk;have b1:=O bC.encOk;have b2:=O ad;have bb:∀c:Cmt,c.parent.length=32->c.confirm.length=32->(ih.info? 31).map (·.size)=A (aj c q).toArray.size:=λc h1 h2=>by rw[jl,eA c q h1 h2];exact dZ
 have PR:hH ((ih.info? 31).map (·.size)=A Y1.size):=O (by rw[ad];exact bb _ (by rw[(l9 ..).1];exact RI) (l9 ..).2);have b3:hH (∀W,az (·<W.heap.size) W (mk1 g a m z init seed) q->jb ih 21 #[ic Y1] W λe w'=>∃v,e=ja v/\ik W w' (mk1 g a m z init seed) v/\ii W W w'):=O (λW hW=>by
  obtain⟨l1,l2,l3,l4⟩:=bM.lens;rw[ad];exact nH _ q W hW l1 l2 l3 l4)
 obtain⟨bN,bd⟩:=J (cM rO ((aA (mk1 g a m z init seed)).take 8));obtain⟨SU,bm⟩:=J ((bN.map v8).toArray);obtain⟨bf,bg⟩:=J (pk (fD g z init) bN);obtain⟨j,a3⟩:=J ((bf.map v8).toArray);have bn:bf.length=32:=by rw[bg];exact oM _ _
 have b4:hH (mk2 g a m z init seed={mk1 g a m z init seed with confirm:=bf}):=O (by rw[bg,bd];exact zX ..);have b5:hH (∀W p R,ao (·<W.heap.size) W (vL ((aA (mk1 g a m z init seed)).take 8)) (T p 8 R)->cJ W->jb ih 36 #[hQ ⟨#[99,111,109,109,105,116,32,98,111,100,121]⟩,T p 8 R] W λe w'=>e=ja (ic SU)/\ii W W w'):=O (λW p R hv hW=>by
  rw[bm,bd];exact kN rO G _ _ W hv (bM.take (by rw[oW];decide) 8) hW.num hW.start)
 have b6:hH (∀W,fL W->jb ih 47 #[ic SA,ic SU] W λe w'=>e=ja (ic j)/\ii W W w'):=O (λW hW=>by
  rw[a3,bg,em,bm];exact KU _ _ (kv _ _ _) (by rw[bd];exact dJ _ _) W hW)
 have bO:hH (j.size=32):=O (by rw[a3,jl,jd,bn]);have b7:hH (j.all (·.oneCell')=true):=O (by rw[a3];exact dA _);have b8:hH ((ih.info? 23).map (·.size)=A j.size):=O (by rw[bO];kernel_rfl);obtain⟨Y2,a2⟩:=J ((aj (mk2 g a m z init seed) q).toArray);have cn:hH (kQ Y1 39 j.toList=Y2):=O (by
  rw[a2,b4,a3,ad];exact JJ _ q bf (by rw[(l9 ..).1];exact RI) (l9 ..).2 bn)
 have Px:hH ((ih.info? 31).map (·.size)=A Y2.size):=O (by rw[a2];exact bb _ (by rw[(mW ..).1];exact RI) (mW ..).2);have cs:hH (Y1.size=73):=O (by rw[ad,jl,eA _ _ (by rw[(l9 ..).1];exact RI) (l9 ..).2]);have cu:hH (Y2.size=73):=O (by rw[a2,jl,eA _ _ (by rw[(mW ..).1];exact RI) (mW ..).2]);have cw:hH (∀W,az (·<W.heap.size) W (mk1 g a m z init seed) q->cJ W->jb ih 49 #[ic Y2] W λe w'=>∃D,e=ja (T (A ⟨D,0,hF⟩) 32 32)/\BytesAt w' (T (A ⟨D,0,hF⟩) 32 32) (dk (mk2 g a m z init seed))/\ii W W w'):=O (λW hC hW=>by
  rw[a2];exact DI _ q W (Av hC) b1 hW)
 obtain⟨sr,bo⟩:∃y:Int,y=((kG X (dk (mk2 g a m z init seed)):Nat):Int):=⟨_,rfl⟩;obtain⟨ss,bq⟩:∃y:Int,y=((kZ X (dk (mk2 g a m z init seed)):Nat):Int):=⟨_,rfl⟩;have cx:hH (∀W v,BytesAt W v (dk (mk2 g a m z init seed))->cJ W->jb ih 48 #[I N (X:Int),v] W λe w'=>e=ja (jB #[ic #[I N sr,I N ss],I N 0])/\ii W W w'):=O (λW v hv hW=>by
  rw[bo,bq];exact M6 X QO.1 QO.2 _ v (by unfold dk;rw[dJ];decide) W hv hW)
 obtain⟨Y3,a5⟩:=J ((aj (mkC g a X m z init seed) q).toArray);have cy:hH (mkC g a X m z init seed={mk2 g a m z init seed with r:=sr,s:=ss}):=O (by rw[bo,bq];exact C7 ..);have cz:hH (kQ Y2 71 [I N sr,I N ss]=Y3):=O (by
  rw[a5,cy,a2];exact Ow _ q sr ss (by rw[(mW ..).1];exact RI) (mW ..).2)
 have Qo:hH ((ih.info? 31).map (·.size)=A Y3.size):=O (by rw[a5];exact bb _ (by rw[(yD ..).1];exact RI) (yD ..).2);have cA:hH (Y3.all (·.oneCell')=true):=O (by rw[a5,hq];exact mj _ _ _ _ _ _ _ _ _ _ _ _ _);have cL:=O a5;clear bl bh ca b9 Sm bA PG bb bv bB bC hq ad a2 a5 bo bq bn a3 bg bm bd eq QD Qs QR Pf br bs bI b2 bk hi
 go_upto_region 37 with fail
 refine ju ?_;refine ib (λF=>F.heap[(t+1+1+1+1)]?=A (hK Y1 31 (0,0))/\F.heap[(t+1+1+1+1+1)]?=A (hK SA 55 (0,0))) 7 [(0,true),(1,true),(2,false),(3,true),(4,false),(5,false),(6,true),(7,false)] ae ae ae G (λ_ _ _ _ h=>h) ⟨VE,Sz⟩ ?_;obtain⟨q0,Pe⟩:=J p5.drew;have d:=aQ p5;rw[<-Pe]at d⊢;have P:=Z VE d;have H:=Z Sz d;have V:=ac Pk d;have ad:=O (bu.later d);clear d Pe VE Sz Pk bu
 (refine cR (v:=ic SA) rfl ag (λF U=>bJ jr rfl cm rfl rfl U.2) ?_;refine L ?_)
 (refine cR (v:=ic Y1) rfl ag (λF U=>bJ jv rfl PR rfl rfl U.1) ?_;refine L ?_)
 refine aS rfl (λK' u=>?_);go_simp;refine(b3 q0 (ad.mono (λk hk=>hk.2))).mono ?_;rintro e q1 ⟨v,rfl,a2,d⟩;obtain⟨gc,bb,rfl,RU⟩:∃g R,v=T (A ⟨g,0,hF⟩) 11 R/\11<=R:=by
  obtain⟨us,a3,-⟩:=a2;obtain⟨g,c,h1,h2,-⟩:=sy a3 G;exact⟨g,c,h1,h2⟩
 have bd:=O (a2.val 8 G).2;have ds:∀W,(Instr.sliceAt 41 (T (A ⟨gc,0,hF⟩) 11 bb) hF (A (I N 8)) hF).run ih W=.ok (T (A ⟨gc,0,hF⟩) 8 bb) W:=λW=>sZ 41 43 4 underlying41 tw gc 0 11 bb 8 Y W
 clear a2;have Pp:=Z P d;have Pr:=Z H d;have OZ:=ac V d;have a3:=O (ad.later d);clear P H V ad;clear d;refine u _ _ ⟨Pp,Pr⟩ λ_=>?_
 clear u;refine L ?_;refine Bb ?_;refine aS rfl (λK' u=>?_);go_simp;refine(b5 q1 _ _ bd.out (Qa.dig.below OZ)).mono ?_;rintro e q2 ⟨rfl,d⟩;have Pu:=Z Pp d;have PC:=Z Pr d;have O4:=ac OZ d;have a5:=O (a3.later d);clear Pp Pr OZ a3 bd;clear d;refine u _ _ ⟨Pu,PC⟩ λ_=>?_
 clear u;refine L ?_;refine aS rfl (λK' u=>?_);go_simp;refine(b6 q2 (Qa.below O4)).mono ?_;rintro e q3 ⟨rfl,d⟩;have PM:=Z Pu d;have PL:=Z PC d;have O8:=ac O4 d;have bd:=O (a5.later d);clear Pu PC O4 a5;clear d;refine u _ _ ⟨PM,PL⟩ λ_=>?_
 clear u;refine L ?_;refine Bb ?_;refine gq rfl (λK' u=>?_);rw[if_pos ag];refine ms 23 _ _ rfl (t+1+1+1+1) 39 j rfl rfl (lT (o:=39) PM.out (by rw[cs,bO];decide)) b8 b7 ?_;have s1:=ut j.toList 39 q3 Y1 PM;rw[cn]at s1;have UP:=O s1;have UR:=O ((rf (k:=(t+1+1+1+1+1)) (b:=(t+1+1+1+1)) Y j.toList 39 q3).trans PL);have UQ:=O (Below.cellsFrom O8 (t+1+1+1+1) (by rw[HG];omega) j.toList 39);have a2:hH (az (λk=>t+6<=k/\k<(q3.setCells (t+1+1+1+1) 39 j.toList).heap.size) (q3.setCells (t+1+1+1+1) 39 j.toList) (mk1 g a m z init seed) q):=O ((bd.keep (λk hk=>rf Y _ _ _)).mono (λk hk=>by rw[setCells_size];exact hk));clear s1;generalize q3.setCells (t+1+1+1+1) 39 j.toList=r0 at UP UR UQ a2⊢;clear PM PL O8 bd;refine u _ _ ?_;clear u;have P:=UP;have H:=UR;have V:=UQ;have ad:=a2;clear UP UR UQ a2;refine jt ?_
 go_upto_region 38 with fail
 refine jG ?_;refine aO ?_;refine jy rfl 31 _ rfl (t+1+1+1+1) rfl 31 Y2 (0,0) _ P.out jv rfl Px ?_
 go_wp2_with fail
 refine(cw r0 (ad.mono (λk hk=>hk.2)) (Qa.dig.below V)).mono ?_;rintro e r1 ⟨gw,rfl,ZW,d⟩;have bd:=O ZW;clear ZW;have Pp:=Z P d;have Pr:=Z H d;have OZ:=ac V d;have a3:=O (ad.later d);clear P H V ad;clear d
 go_wp2_with fail
 refine(cx r1 _ bd.out (Qa.dig.below OZ)).mono ?_;rintro e r2 ⟨rfl,d⟩;have Pu:=Z Pp d;have PC:=Z Pr d;have O4:=ac OZ d;have a5:=O (a3.later d);clear Pp Pr OZ a3 bd;clear d
 go_wp2_with (refine js rfl λ_ u=>ms 29 _ _ rfl (t+1+1+1+1) 71 #[I N sr,I N ss] rfl rfl (lT (o:=71) (n:=2) Pu.out (by rw[cu];decide)) ae (by simp[jn]) (u _ _ ?_))
 have s1:=ut [I N sr,I N ss] 71 r2 Y2 Pu;rw[cz]at s1;have UP:=O s1;have UR:=O ((rf (k:=(t+1+1+1+1+1)) (b:=(t+1+1+1+1)) Y [I N sr,I N ss] 71 r2).trans PC);have UQ:=O (Below.cellsFrom O4 (t+1+1+1+1) (by rw[HG];omega) [I N sr,I N ss] 71);have a2:hH (az (λk=>t+6<=k/\k<(r2.setCells (t+1+1+1+1) 71 [I N sr,I N ss]).heap.size) (r2.setCells (t+1+1+1+1) 71 [I N sr,I N ss]) (mk1 g a m z init seed) q):=O ((a5.keep (λk hk=>rf Y _ _ _)).mono (λk hk=>by rw[setCells_size];exact hk));clear s1;generalize r2.setCells (t+1+1+1+1) 71 [I N sr,I N ss]=r9 at UP UR UQ a2⊢;clear Pu PC O4 a5;have RR:=UP;have SC:=UR;have Qx:=UQ;have a3:=a2;clear UP UR UQ a2
 go_upto_region 41 with fail
 refine ju ?_;refine aY (λF=>F.heap[(t+1+1+1+1)]?=A (hK Y3 31 (0,0))/\F.heap[(t+1+1+1+1+1)]?=A (hK SA 55 (0,0))) (.take 0 (.take 1 (.one 2 (.one 3 (.take 4 .done))))) ae ae ae G (λ_ _ _ _ h=>h) ⟨RR,SC⟩ ?_;obtain⟨u0,Pe⟩:=J r9.drew;have d:=aQ r9;rw[<-Pe]at d⊢;have RG:=Z RR d;have RH:=Z SC d;have QZ:=ac Qx d;have a2:=O (a3.later d);clear d Pe RR SC Qx a3;have P:=RG;clear RG;have H:=RH;clear RH;have V:=QZ;clear QZ;have ad:=a2;clear a2
 (refine ay (v:=ic Y3) rfl ag (λF U=>bJ jv rfl Qo rfl rfl U.1) ?_;refine L ?_)
 (refine ay (v:=ic SA) rfl ag (λF U=>bJ jr rfl cm rfl rfl U.2) ?_;refine L ?_)
 refine ai rfl (λK' u=>?_);rw[if_pos ag];refine jj 31 _ _ rfl (t+1+1+1+1) Y3 rfl rfl 31 _ P.out Qo rfl cA ?_;rw[dq P];refine u _ _ ⟨P,H⟩ λ_=>?_
 clear u;refine L ?_;refine ai rfl (λK' u=>?_);rw[if_pos ag];refine jj 55 _ _ rfl (t+1+1+1+1+1) SA rfl rfl 55 _ H.out cm rfl fv ?_;rw[dq H];refine u _ _ ⟨P,H⟩ λ_=>?_
 clear u;refine L ?_;refine aC ?_;refine jt ?_
 go_wp2_with fail
 refine jE (nN rfl _ _ (t+1+1+1+1) (t+1+1+1+1+1) 31 55 Y3 SA (0,0) (0,0) _ _ rfl rfl P H jv rfl Qo jr rfl cm) rfl ⟨λ_=>⟨q,?_,?_⟩,λh=>absurd SD h,V⟩
 ·rw[cL,em,qk]
  rfl
 rw[qk];exact(Mz (x:=X) ad).mono (λk hk=>⟨by have h1:=HG.out;have h2:=hk.1;omega,hk.2⟩)
theorem sB:(ih.info? 43).map (·.size)=A 4:=by kernel_rfl
theorem BQ{B g:Nat}{e:jq}{sz n:Nat}{w w':hZ}{v:hU}{xs:List hU}(h:w.ownsRow B e sz v n xs)(b:kz g w w')(l:g<B):w'.ownsRow B e sz v n xs:=by
 refine⟨h.1,?_⟩
 rcases h.2 with a|⟨k,c,d,f,a,i,j⟩
 ·exact .inl a
 exact .inr ⟨k,c,d,f,a,(b.block k Y).trans i,j⟩
theorem iu(n:Int)(w:hZ):
 jb ih 87 #[I N n] w λe w'=>e=ja (ic #[I N 1,I N n,hQ ⟨#[]⟩,T hF 0 0])/\ii w w w':=by
 go_enter func87,ntmps87
 go_wp2_with fail
 exact j6 (v:=ic #[I N 1,I N n,hQ ⟨#[]⟩,T hF 0 0]) (by simp[results,results87,go_sem]) rfl ⟨rfl,(jM _ _).alloc (jc _) _⟩
theorem uq(s:ByteArray)(w:hZ):
 jb ih 88 #[hQ s] w λe w'=>e=ja (ic #[I N 2,I N 0,hQ s,T hF 0 0])/\ii w w w':=by
 go_enter func88,ntmps88
 go_wp2_with fail
 exact j6 (v:=ic #[I N 2,I N 0,hQ s,T hF 0 0]) (by simp[results,results88,go_sem]) rfl ⟨rfl,(jM _ _).alloc (jc _) _⟩
theorem lP(p:Option jw)(n c:Nat)(w:hZ):
 jb ih 33 #[T p n c] w λe w'=>e=ja (ic #[I N 3,I N 0,hQ ⟨#[]⟩,T p n c])/\ii w w w':=by
 go_enter func33,ntmps33
 go_wp2_with fail
 exact j6 (v:=ic #[I N 3,I N 0,hQ ⟨#[]⟩,T p n c]) (by simp[results,results33,go_sem]) rfl ⟨rfl,(jM _ _).alloc (jc _) _⟩
theorem Ec(l:LBy)(h:l.length=32)(w:hZ):
 jb ih 89 #[ic (l.map v8).toArray] w λe w'=>e=ja (ic #[I N 2,I N 0,hQ (ofB l),T hF 0 0])/\ii w w w':=by
 obtain⟨a,b⟩:=J ((l.map v8).toArray);have i:BytesAt ((w.alloc (hK a 23)).alloc (hK #[I N 0,I N 0,hQ ⟨#[]⟩,T hF 0 0] 43)) (T (A ⟨w,0,hF⟩) 32 32) l:=by
  have c:=je w (hK a 23);have d:=af (w.alloc (hK a 23)) (hK #[I N 0,I N 0,hQ ⟨#[]⟩,T hF 0 0] 43);exact bytes_of_row (ak c d) (λj g f=>by rw[b,ow];simpa using f) h
 have c:=af w (hK a 23);have j:=af (w.alloc (hK a 23)) (hK #[I N 0,I N 0,hQ ⟨#[]⟩,T hF 0 0] 43);have d:=je (w.alloc (hK a 23)) (hK #[I N 0,I N 0,hQ ⟨#[]⟩,T hF 0 0] 43);rw[jm]at d;have f:=gI i;rw[pH]at f;have n:a.size=32:=by rw[b,jl,jd];exact h
 rw[<-b];obtain⟨s,k⟩:=J (ofB l);rw[<-k]at f⊢;have g:=O (c.trans (j.mono c.size));have m:=O d;clear i b k c j d
 go_enter func89,ntmps89
 go_wp2_with fail
 refine(uq s _).mono ?_;rintro e c ⟨rfl,b⟩;have d:=ak m b;have i:=g.trans (b.mono g.size);clear f m g b
 go_wp2_with (refine js rfl λ_ b=>jj 43 _ _ rfl (w.heap.size+1) #[I N 2,I N 0,hQ s,T hF 0 0] rfl rfl 43 _ d sB rfl (by simp[jn]) (b _ _ ?_))
 have b:=jL c (w.heap.size+1) _ #[I N 2,I N 0,hQ s,T hF 0 0] _ _ d;have f:=j1 i (Nat.le_succ _) #[I N 2,I N 0,hQ s,T hF 0 0];generalize c.setRow (w.heap.size+1) #[I N 2,I N 0,hQ s,T hF 0 0]=g at b f⊢;exact j6 (v:=ic #[I N 2,I N 0,hQ s,T hF 0 0]) (jW rfl _ _ (w.heap.size+1) 43 _ (0,0) _ rfl b jH rfl sB) rfl ⟨rfl,f⟩
theorem yN(l:List Int)(v:hU)(w:hZ)(hv:cC w v l)(hl:l.length<=1000000):
 jb ih 86 #[v] w λe w'=>∃S,e=ja (ic #[I N 3,I N 0,hQ ⟨#[]⟩,S])/\w'.ownsRow w 43 4 S l.length (dB l)/\ii w w w':=by
 obtain⟨p,c,rfl,hc,a⟩:=hv;obtain⟨n,b⟩:=J l.length;rw[<-b]at hc hl a⊢;have U:=O b;have V:=O a;clear b a
 go_enter func86,ntmps86
 go_wp2_with fail
 obtain⟨W,g⟩:=J ((w.alloc (hK #[I N 0,I N 0,hQ ⟨#[]⟩,T hF 0 0] 43)).alloc (hK #[I N 3,I N 0,hQ ⟨#[]⟩,T hF 0 0] 43));have h:=af w (hK #[I N 0,I N 0,hQ ⟨#[]⟩,T hF 0 0] 43);have b:=je w (hK #[I N 0,I N 0,hQ ⟨#[]⟩,T hF 0 0] 43);have i:=af (w.alloc (hK #[I N 0,I N 0,hQ ⟨#[]⟩,T hF 0 0] 43)) (hK #[I N 3,I N 0,hQ ⟨#[]⟩,T hF 0 0] 43);have d:=je (w.alloc (hK #[I N 0,I N 0,hQ ⟨#[]⟩,T hF 0 0] 43)) (hK #[I N 3,I N 0,hQ ⟨#[]⟩,T hF 0 0] 43);replace b:=ak b i;rw[jm]at d;have j:=h.trans (i.mono h.size);rw[<-g]at b d j⊢;obtain⟨a,f⟩:=J w.heap.size;rw[<-f]at b d⊢;have K:=O f;have C:=O b;have k:=O d;have r:=O j;have m:hH (a+2<=W.heap.size):=O (by rw[g,jm,jm,f];exact jc _);clear h i g b d j f
 go_loopw [4] (λv wr=>∃(i:Nat) (f:hU),v=I N i/\i<=n/\hH (wr.heap[a]?=A (hK #[I N 0,I N 0,hQ ⟨#[]⟩,T hF 0 0] 43 (0,0)))/\hH (wr.heap[a+1]?=A (hK #[I N 3,I N 0,hQ ⟨#[]⟩,f] 43 (0,0)))/\hH (wr.ownsRow (a+2) 43 4 f i (dB (l.take i)))/\hH (ii a w wr/\a+2<=wr.heap.size)) (λv _=>n-(jo v).toNat)
 case atStart=>exact⟨0,_,rfl,jC _,C,k,O (by simpa [dB,aW]using j8 W (a+2) 43 4),O ⟨by rw[K];exact r,m⟩⟩
 clear C k r m;obtain⟨i,f,rfl,hi,M,u,D,j⟩:=hrel
 by_cases X:i<n
 ·have hd:=ap ((i:Int)<(n:Int))
  have PX:=ap (i<n);obtain⟨g,o,rfl,k⟩:=V Y;have b:i<l.length:=by rw[<-U];exact X
  have z:l.getD i 0=l[i]:=by simp[jV,b]
  obtain⟨y,d⟩:=J (l.getD i 0);have E:=k i X;rw[<-d]at E;have h:g<a:=by rw[K];exact eN E
  have P:wr.cell? ⟨g,o+i,hF⟩=A (I N y):=(bz (j.1.block g h)).trans E;have HT:hH (dB (l.take (i+1))=dB (l.take i)++[I N 1,I N y,hQ ⟨#[]⟩,T hF 0 0]):=O (by
   rw[qd b,yz,d,z])
  obtain⟨s,t,rfl⟩:=aL D;have m:wr.drew.heap[a+1]?=A (hK #[I N 3,I N 0,hQ ⟨#[]⟩,T s i t] 43 (0,0))/\wr.drew.cell? ⟨g,o+i,hF⟩=A (I N y):=⟨u,P⟩;have x:=O (cZ D (aQ wr));have q:hH (ii a w wr.drew/\a+2<=wr.drew.heap.size):=O ⟨j.1.trans ((aQ wr).mono (a8 j.2)),j.2⟩;have B:hH (wr.drew.heap[a]?=A (hK #[I N 0,I N 0,hQ ⟨#[]⟩,T hF 0 0] 43 (0,0))):=O M;have Z5:=O h;clear z d E P k b V M u D j h
  go_upto_region 5 with fail
  refine ju ?_;refine ib (λb=>b.heap[a+1]?=A (hK #[I N 3,I N 0,hQ ⟨#[]⟩,T s i t] 43 (0,0))/\b.cell? ⟨g,o+i,hF⟩=A (I N y)) 10 [(0,true),(1,true),(2,true),(3,true),(4,true),(5,true),(6,false),(7,false),(8,false),(9,true),(10,false)] ae ae ae G (λ_ _ _ _ h=>h) m ?_;generalize wr.drew=wa at m x q B⊢;refine bY ?_
  (refine cR (v:=?_) rfl ag (λb d=>?_) ?_;rotate_left;(have k:=cell_of (i:=3) d.1 rfl;go_simp;with_reducible rfl);refine L ?_)
  iterate 3 refine bY ?_
  (refine cR (v:=?_) rfl ag (λb d=>?_) ?_;rotate_left;(have k:=d.2;go_simp;with_reducible rfl);refine L ?_)
  refine aS rfl (λQ d=>?_);go_simp;refine(iu y wa).mono ?_;rintro e k ⟨rfl,b⟩;refine d _ _ ⟨ak m.1 b,(bz (b.block g (eN m.2))).trans m.2⟩ λz=>?_
  have R:=aE x b;have r:hH (ii a w k/\a+2<=k.heap.size):=O ⟨q.1.trans (b.mono (a8 q.2)),jk q.2 b.size⟩;have C:=Z B b;clear d b m x q B;refine L ?_;refine aS rfl (λQ d=>?_);go_simp;have b:=af k (hK #[I N 1,I N y,hQ ⟨#[]⟩,T hF 0 0] 43);have x:=ei k [I N 1,I N y,hQ ⟨#[]⟩,T hF 0 0] 43 (0,0) 4 1 1 rfl (jc _);refine d _ _ ⟨ak z.1 b,(bz (b.block g (eN z.2))).trans z.2⟩ λF=>?_
  replace x:bW (k.alloc (hK #[I N 1,I N y,hQ ⟨#[]⟩,T hF 0 0] 43)) (T (A ⟨k,0,hF⟩) 1 1) 4 1 [I N 1,I N y,hQ ⟨#[]⟩,T hF 0 0]:=x;generalize k.alloc (hK #[I N 1,I N y,hQ ⟨#[]⟩,T hF 0 0] 43)=wc at b x F⊢;have m:=aE R b;have q:hH (ii a w wc/\a+2<=wc.heap.size):=O ⟨r.1.trans (b.mono (a8 r.2)),jk r.2 b.size⟩;have H:=Z C b;have PT:=O x;clear d b x z R r C;refine L ?_;refine aS rfl (λQ d=>?_);rw[if_pos ag];refine ig _ _ rfl (a+2) (T s i t) _ _ rfl m _ 1 _ rfl PT (by simp[jn]) Y q.2 λv' x b=>?_
  obtain⟨z,B,rfl⟩:=aL b.own;have aa:=dW F.1 b.grown (bU m (.inr Y));have RO:=(bz (b.grown.block g (eN F.2) (λe=>bU m (.inr (aw Z5)) e.symm))).trans F.2;have Qs:=O (dW H b.grown (bU m (.inr Y)));have Yy:=O b.own;have R:hH (ii a w x/\a+2<=x.heap.size):=O ⟨q.1.trans ((b.below m q.2).mono Y),jk q.2 b.grown.size⟩;refine d _ _ ⟨aa,RO⟩ λUI=>?_
  clear d F b m q H PT aa RO;refine L ?_;refine bY ?_;refine gq rfl (λQ d=>?_);obtain⟨⟨vo,F⟩,f3,Q,b⟩:=bP (i:=3) (T z (i+1) B) UI.1 av;go_simp;refine d _ _ ?_;have Sz:=O ((b.block a Y).trans Qs);have YR:hH ((x.setCell ⟨a+1,3,hF⟩ (T z (i+1) B)).heap[a+1]?=A (hK #[I N 3,I N 0,hQ ⟨#[]⟩,T z (i+1) B] 43 (0,0))):=O Q;have Sg:=O (BQ Yy b Y);have Pk:hH (ii a w (x.setCell ⟨a+1,3,hF⟩ (T z (i+1) B))/\a+2<=(x.setCell ⟨a+1,3,hF⟩ (T z (i+1) B)).heap.size):=O ⟨R.1.trans (b.below Y),by rw[b.size];exact R.2⟩;generalize x.setCell ⟨a+1,3,hF⟩ (T z (i+1) B)=wz at Sz YR Sg Pk⊢;clear d F f3 Q b Yy R Qs;refine jt ?_
  go_wp2_with fail
  refine⟨⟨i+1,_,by go_num,by omega,Sz,YR,O (by rw[HT];exact Sg),Pk⟩,?_⟩;simp only[jo];omega
 have hd:=ar ((i:Int)<(n:Int));have PX:=ar (i<n);obtain rfl:i=n:=Y;have g:=jL wr a _ #[I N 3,I N 0,hQ ⟨#[]⟩,f] _ _ M.out;have o:∀k,k≠a->(wr.setRow a #[I N 3,I N 0,hQ ⟨#[]⟩,f]).heap[k]?=wr.heap[k]?:=λk hk=>jh wr a k _ hk
 have b:=j1 j.1 (jc _) #[I N 3,I N 0,hQ ⟨#[]⟩,f];have x:(wr.setRow a #[I N 3,I N 0,hQ ⟨#[]⟩,f]).ownsRow (a+2) 43 4 f i (dB l):=by
  have h:=BQ D (⟨b.os.trans j.1.os.symm,b.tape.trans j.1.tape.symm,b.output.trans j.1.output.symm,by simp[mb],o⟩:kz a wr (wr.setRow a #[I N 3,I N 0,hQ ⟨#[]⟩,f])) Y;rw[jN (by rw[<-U];exact jc _)]at h;exact h
 have H:=O g;have q:=O b;have m:=O x;have E:=cell_of (i:=0) u rfl;have P:=cell_of (i:=1) u rfl;have h:=cell_of (i:=2) u rfl;have F:=cell_of (i:=3) u rfl;obtain⟨s,t,rfl⟩:=aL D;clear g o b x
 go_wp2_with (refine js rfl λ_ d=>jj 43 _ _ rfl a #[I N 3,I N 0,hQ ⟨#[]⟩,T s i t] rfl rfl 43 _ M.out sB rfl (by simp[jn]) (d _ _ ?_))
 generalize wr.setRow a #[I N 3,I N 0,hQ ⟨#[]⟩,T s i t]=b at H q m⊢;exact j6 (v:=ic #[I N 3,I N 0,hQ ⟨#[]⟩,T s i t]) (jW rfl _ _ a 43 _ (0,0) _ rfl H jH rfl sB) rfl ⟨_,rfl,kX m (aw K),by have:=K.out;subst this;exact q⟩
structure Bls(M:Nat)(w0 wr:hZ)(l:List Val)(a:hU)(b:List hU):Prop where
 own:wr.ownsRow M 43 4 a l.length (aW l b)
 kids:ax (λg=>M<=g/\g<wr.heap.size/\a.ownBlock≠A g) wr l b
 low:ii M w0 wr
 sz:M<=wr.heap.size
theorem Bls.start(W:hZ):Bls W.heap.size W (W.alloc (hK #[] 43)) [] (T (A ⟨W,0,hF⟩) 0 0) []:=
 ⟨iG W [] 43 4 0 W.heap.size (jc _) rfl (jC _),by rw[ax],af W _,by rw[jm];omega⟩
theorem Bls.later{M:Nat}{w0 wr d:hZ}{l:List Val}{e:hU}{c:List hU}(h:Bls M w0 wr l e c)(a:ii wr wr d):Bls M w0 d l e c:=
 ⟨cZ h.own a,ax.mono (λg b=>⟨b.1,jg b.2.1 a.size,b.2.2⟩) l c (ax.keep (λg b=>a.block g b.2.1) l c h.kids),h.low.trans (a.mono h.sz),jk h.sz a.size⟩
theorem Bls.push{M:Nat}{w0 a j:hZ}{l:List Val}{i k:hU}{c:List hU}(h:Bls M w0 a l i c){x:Val}{d:hU}
 (o:ao (λg=>M<=g/\g<a.heap.size/\i.ownBlock≠A g) a x d) (f:aV M 43 4 a j i k (l.length+1) (aW l c++ee x d)):Bls M w0 j (l++[x]) k (c++[d]):=by
 have p:=h.kids.len;have m:∀g,(M<=g/\g<a.heap.size/\i.ownBlock≠A g)->j.heap[g]?=a.heap[g]?:=λg b=>f.grown.block g b.2.1 (λe=>b.2.2 e.symm)
 have n:∀g,(M<=g/\g<a.heap.size/\i.ownBlock≠A g)->(M<=g/\g<j.heap.size/\k.ownBlock≠A g):=λg b=>
  ⟨b.1,jg b.2.1 f.grown.size,f.ne b.2.1 b.2.2⟩
 refine⟨?_,ax.append (ax.mono n _ _ (ax.keep m _ _ h.kids)) (ax.one (ao.mono n _ _ (ao.keep m _ _ o))),h.low.trans (f.below h.own h.sz),jk h.sz f.grown.size⟩;have e:aW (l++[x]) (c++[d])=aW l c++ee x d:=by
  rw[m8 l [x] c [d] p];simp[aW]
 rw[e,jz];exact f.own
theorem Bls.fresh{M:Nat}{w0 a b:hZ}{l:List Val}{c:hU}{f:List hU}(h:Bls M w0 a l c f)(o:ii a a b){e:jq}{sz n:Nat}{d:hU}{xs:List hU}(i:b.ownsRow a e sz d n xs):
 ∀g,d.ownBlock=A g->M<=g/\g<b.heap.size/\c.ownBlock≠A g:=λg j=>by
 obtain⟨k,m⟩:=i.lt g j;exact⟨jk h.sz k,m,λe=>by have:=(h.own.lt g e).2;omega⟩
theorem Bls.fin{M:Nat}{w0 wr:hZ}{l:List Val}{c:hU}{b:List hU}(h:Bls M w0 wr l c b):ao (λg=>M<=g/\g<wr.heap.size) wr (vL l) c:=by
 rw[vL,ao];exact⟨b,ah.of_own h.own (λg a=>h.own.lt g a),ax.mono (λg a=>⟨a.1,a.2.1⟩) l b h.kids⟩
theorem sf{p q:Prop}(k:q)(h:q->p:=by intro k;refine ay (v:=?_) rfl ag (λW' hS=>?_) ?_;rotate_left;(have e0:=cell_of (i:=0) hS.1 rfl;have e1:=cell_of (i:=1) hS.1 rfl;have e2:=cell_of (i:=2) hS.1 rfl;have e3:=cell_of (i:=3) hS.1 rfl;go_simp;with_reducible rfl);refine L ?_;exact k):p:=h k
theorem vP{p q:Prop}(k:q)(h:q->p:=by intro k;refine ay (v:=?_) rfl ag (λW' hS=>?_) ?_;rotate_left;(have e0:=cell_of (i:=0) hS.1 rfl;have e1:=cell_of (i:=1) hS.1 rfl;have e2:=cell_of (i:=2) hS.1 rfl;go_simp;with_reducible rfl);refine L ?_;exact k):p:=h k
theorem BC(c:Cmt)(q:CQ)(w:hZ)(f:az (·<w.heap.size) w c q)(l1:c.chg.length<=1000000)(l2:c.path.length<=1000000)(l3:c.box.length<=1000000)(l4:c.wel.length<=1000000):
 jb ih 34 #[ic (aj c q).toArray] w λe w'=>∃v,e=ja v/\ik w w' c v/\ii w w w':=by
 have d:cD (w.alloc (hK (aj c q).toArray 31)) w.heap.size c q:=⟨je w _,f.plen,f.clen⟩;have g:=af w (hK (aj c q).toArray 31);have u:=O f;obtain⟨Pl,h⟩:=J ((aj c q).toArray);rw[<-h]at d g⊢;have R0:=O h;obtain⟨b,i⟩:=J w.heap.size;rw[<-i]at d;have RQ:=O i;obtain⟨W1,j⟩:=J (w.alloc (hK Pl 31));rw[<-j]at d g;have z:=O d;have p:=O g;have k:=O j;have B:hH (b<W1.heap.size):=O (jf.1 d.blk).1;clear d g f h i j
 go_enter func34,ntmps34
 go_upto_region 1 with fail
 rw[<-k,<-RQ];clear k;obtain⟨c0,c1,R1,Rq,T8,S7,S8,Vp,Vr⟩:=eK c q u.plen u.clen;have U5:=O Rq;obtain⟨Vq,p1,q1,ad,UY,bb,Qr⟩:=u.chg;obtain⟨K,TA⟩:=J c.chg.length;rw[ad]at U5;rw[<-TA]at U5 l1 UY;have Rz:=O TA;have C:=O Qr;clear c0 c1 R1 Rq T8 S7 S8 Vp Vr Vq ad bb TA Qr;obtain⟨M,d⟩:=J W1.heap.size;have Qa:hH (Bls M W1 (W1.alloc (hK #[] 43)) [] (T (A ⟨M,0,hF⟩) 0 0) []):=O (by rw[d];exact Bls.start W1);have Ro:=O d;have br:hH (b<M):=O (by rw[d];exact B);have bn:hH (w.heap.size<=M):=O (by rw[d];exact p.size);clear d
 go_wp2_with fail
 rw[<-Ro]
 go_loopw [3,4] (λv3 v wr=>∃(i:Nat) (vr:hU) (us:List hU),vr=v3/\v=I N i/\i<=K/\hH (Bls M W1 wr ((c.chg.take i).map Chg.val) vr us)) (λ_ v _=>K-(jo v).toNat)
 case atStart=>exact⟨0,_,[],rfl,rfl,jC _,Qa⟩
 clear Qa;obtain⟨i,vr,us,rfl,rfl,hi,m⟩:=hrel;have a3:hH (cD wr b c q):=O (z.keep (m.low.block b br));have cL:=a3.get U5
 by_cases a4:i<K
 ·have hd:=ap ((i:Int)<(K:Int))
  have PX:=ap (i<K);obtain⟨g,o,rfl,al,a5⟩:=C (aw Rz);obtain⟨x,r,SK⟩:=mY (l:=c.chg) (j:=i) (by rw[<-Rz];exact a4);have QH:wr.heap[g]?=w.heap[g]?:=(m.low.block g (jg al bn)).trans (p.block g al);have P:=λk hk=>(bz (a:=⟨g,o+(i*5+k),hF⟩) QH).trans (a5 (i*5+k) _ ((flat_get Chg.cells 5 (λ_=>rfl) c.chg i k x r hk).trans (show x.cells[k]?=A (x.cells.getD k (I N 0)) by have:x.cells.length=5:=rfl;simp[jV,jO (show k<x.cells.length by omega)])))
  have d0:wr.cell? ⟨g,o+i*5,hF⟩=A (I N x.k):=P 0 G;have d1:wr.cell? ⟨g,o+i*5+1,hF⟩=A (I N x.d):=P 1 G;have d2:wr.cell? ⟨g,o+i*5+2,hF⟩=A (I N x.p):=P 2 G;have s:wr.cell? ⟨g,o+i*5+3,hF⟩=A (I N x.v):=P 3 G;have d:wr.cell? ⟨g,o+i*5+4,hF⟩=A (I N x.c):=P 4 G;have Rf:=O SK;clear QH P a5 r SK al;obtain⟨pv,cv,Q⟩:=aL m.own;have au:((c.chg.take i).map Chg.val).length=i:=by rw[jd,jI,<-Rz];omega
  rw[au]at Q;have TB:=O au;subst Q;clear au
  go_upto_region 6 with fail
  obtain⟨bx,a1⟩:=J wr.heap.size;have aa:=je wr (hK #[I N x.k,I N x.d,I N x.p,I N x.v,I N x.c] 59);have U:=af wr (hK #[I N x.k,I N x.d,I N x.p,I N x.v,I N x.c] 59);have RY:hH ((jD pv i cv).ownBlock≠A bx):=O (bU m.own (.inl (jA a1.symm)));rw[<-a1]at aa⊢;obtain⟨D,Ru⟩:=J (wr.alloc (hK #[I N x.k,I N x.d,I N x.p,I N x.v,I N x.c] 59));rw[<-Ru]at aa U⊢;have E:hH (Bls M W1 D ((c.chg.take i).map Chg.val) (T pv i cv) us):=O (m.later U);have HE:=O aa;clear aa U Ru a1 m a3 cL d0 d1 d2 s d;have h:=cell_of (i:=0) HE rfl;have n:=cell_of (i:=1) HE rfl;have y:=cell_of (i:=2) HE rfl;have F:=cell_of (i:=3) HE rfl;have H:=cell_of (i:=4) HE rfl;have d:cC (D.alloc (hK #[I N x.k,I N x.d,I N x.p,I N x.v,I N x.c] 3)) (T (A ⟨D,0,hF⟩) 5 5) [x.k,x.d,x.p,x.v,x.c]:=Ct D [x.k,x.d,x.p,x.v,x.c] 3;have t:=O d;have f:=O (af D (hK #[I N x.k,I N x.d,I N x.p,I N x.v,I N x.c] 3));clear d
  go_wp2_with fail
  obtain⟨R,d⟩:=J (D.alloc (hK #[I N x.k,I N x.d,I N x.p,I N x.v,I N x.c] 3));rw[<-d]at t f⊢;clear d h n y F H;refine(yN _ _ R t av).mono ?_;rintro e h ⟨S,rfl,y,d⟩;obtain⟨n,V,rfl⟩:=aL y;have F:hH (h.ownsRow D 43 4 (T n 5 V) 5 (dB [x.k,x.d,x.p,x.v,x.c])):=O (kX y f.size);have H:=ac f d;clear y d t f;have U:=af h (hK #[I N 3,I N 0,hQ ⟨#[]⟩,T n 5 V] 43);have t:=aE F U;have y:=ac H U;have PH:=O (E.later y);have Yu:=O (lR (l:=[x.k,x.d,x.p,x.v,x.c]) t (E.fresh y t));have PT:hH (bW (h.alloc (hK #[I N 3,I N 0,hQ ⟨#[]⟩,T n 5 V] 43)) (T (A ⟨h,0,hF⟩) 1 1) 4 1 [I N 3,I N 0,hQ ⟨#[]⟩,T n 5 V]):=O (ei h [I N 3,I N 0,hQ ⟨#[]⟩,T n 5 V] 43 (0,0) 4 1 1 rfl (jc _));clear U F H E
  go_wp2_with (at_builtin;refine Hid.out ?_)
  refine O ?_;refine js rfl λ_ f=>ig _ _ rfl M (T pv i cv) _ _ rfl PH.own _ 1 _ rfl PT (by simp[jn]) (by rw[TB];omega) PH.sz λv' wf HG=>f _ _ ?_
  have Pj:=HG.own;rw[TB]at Pj;obtain⟨pn,cn,rfl⟩:=aL Pj;have WC:=O (PH.push (x:=Chg.val x) Yu HG);clear f Pj HG PH Yu t y PT
  go_wp2_with fail
  refine⟨⟨i+1,_,_,rfl,by go_num,by omega,by rw[Rf,jX];exact WC⟩,?_⟩;simp only[jo];omega
 have hd:=ar ((i:Int)<(K:Int));have PX:=ar (i<K);have ba:c.chg.take i=c.chg:=jN (by rw[<-Rz];omega);replace m:hH (Bls M W1 wr (c.chg.map Chg.val) vr us):=O (by rw[<-ba];exact m);clear ba C;obtain⟨TV,TU,Q⟩:=aL m.own;rw[jd,<-Rz]at Q;subst Q;have WE:=O m.fin;have S:hH (ii w w wr):=O (p.trans (m.low.mono bn));have bs:hH (b<wr.heap.size):=O (jg br m.sz);have bA:hH (M<=wr.heap.size):=O m.sz
 go_upto_region 7 with fail
 clear m U5 cL hi a4 hd PX z p B;rename hZ=>W2;rename hH (cD W2 b c q)=>ajV;obtain⟨c0,c1,R1,Rq,T8,S7,S8,Vp,Vr⟩:=eK c q u.plen u.clen;have U5:=O S7;obtain⟨ub,⟨Vq,p1,q1,ad,UY,bb,Qr⟩,bl⟩:=u.box;have bB:=O bl;clear bl;obtain⟨R,TA⟩:=J c.box.length;rw[ad]at U5;rw[<-TA]at U5 l3 UY;have S0:=O TA;have Pu:=O Qr;clear c0 c1 R1 Rq T8 S7 S8 Vp Vr Vq ad bb TA Qr;obtain⟨W,h⟩:=J W2.heap.size;have Qa:hH (Bls W W2 (W2.alloc (hK #[] 43)) [] (T (A ⟨W,0,hF⟩) 0 0) []):=O (by rw[h];exact Bls.start W2);have Qk:=O h;have bu:hH (b<W):=O (by rw[h];exact bs);have bm:hH (w.heap.size<=W):=O (by rw[h];exact S.size);clear h
 go_wp2_with fail
 rw[<-Qk]
 go_loopw [6,7] (λv3 v wr=>∃(i:Nat) (vr:hU) (us:List hU),vr=v3/\v=I N i/\i<=R/\hH (Bls W W2 wr ((c.box.take i).map Bx.val) vr us)) (λ_ v _=>R-(jo v).toNat)
 case atStart=>exact⟨0,_,[],rfl,rfl,jC _,Qa⟩
 clear Qa;obtain⟨i,vr,us,rfl,rfl,hi,m⟩:=hrel;have a3:hH (cD wr b c q):=O (ajV.keep (m.low.block b bu));have cL:=a3.get U5
 by_cases a4:i<R
 ·have hd:=ap ((i:Int)<(R:Int))
  have PX:=ap (i<R);obtain⟨g,o,rfl,al,a5⟩:=Pu (aw S0);obtain⟨x,r,SK⟩:=mY (l:=c.box) (j:=i) (by rw[<-S0];exact a4);have QH:wr.heap[g]?=w.heap[g]?:=(m.low.block g (jg al bm)).trans (S.block g al);obtain⟨ux,Ti,RD⟩:=bB.at (i:=i) (b:=x.body) (by rw[jU,r];rfl);obtain⟨z,B,rfl⟩:=RD.form;have P:=λk hk=>(bz (a:=⟨g,o+(i*4+k),hF⟩) QH).trans (a5 (i*4+k) _ ((nZ Bx.cells 4 (λ_ _=>rfl) c.box ub i k x _ r Ti hk).trans (show(x.cells (T z x.body.length B))[k]?=A ((x.cells (T z x.body.length B)).getD k (I N 0)) by have:(x.cells (T z x.body.length B)).length=4:=rfl;simp[jV,jO (show k<(x.cells (T z x.body.length B)).length by omega)])))
  have d0:wr.cell? ⟨g,o+i*4,hF⟩=A (I N x.node):=P 0 G;have d1:wr.cell? ⟨g,o+i*4+1,hF⟩=A (I N x.lev):=P 1 G;have d2:wr.cell? ⟨g,o+i*4+2,hF⟩=A (I N x.u):=P 2 G;have s:wr.cell? ⟨g,o+i*4+3,hF⟩=A (T z x.body.length B):=P 3 G;clear Ti;have Rf:=O SK;clear QH P a5 r SK al;obtain⟨pv,cv,Q⟩:=aL m.own;have au:((c.box.take i).map Bx.val).length=i:=by rw[jd,jI,<-S0];omega
  rw[au]at Q;have TB:=O au;subst Q;clear au
  go_upto_region 12 with fail
  obtain⟨bx,a1⟩:=J wr.heap.size;have aa:=je wr (hK #[I N x.node,I N x.lev,I N x.u,T z x.body.length B] 73);have U:=af wr (hK #[I N x.node,I N x.lev,I N x.u,T z x.body.length B] 73);have RY:hH ((jD pv i cv).ownBlock≠A bx):=O (bU m.own (.inl (jA a1.symm)));rw[<-a1]at aa⊢;obtain⟨D,Ru⟩:=J (wr.alloc (hK #[I N x.node,I N x.lev,I N x.u,T z x.body.length B] 73));rw[<-Ru]at aa U⊢;have E:hH (Bls W W2 D ((c.box.take i).map Bx.val) (T pv i cv) us):=O (m.later U);have HE:=O aa;clear aa U Ru a1 m a3 cL d0 d1 d2 s;have bo:=O RD;have Ql:hH (D.drew.heap[bx]?=A (hK #[I N x.node,I N x.lev,I N x.u,T z x.body.length B] 73 (0,0))):=HE;have Z6:hH (BytesAt D.drew (T z x.body.length B) x.body):=O ((RD.keep λg s=>(E.low.block g (jg s bm)).trans (S.block g s)).bytes);replace E:=O (E.later (aQ D));clear RD HE;refine ju ?_;refine aY (λt=>t.heap[bx]?=A (hK #[I N x.node,I N x.lev,I N x.u,T z x.body.length B] 73 (0,0))/\BytesAt t (T z x.body.length B) x.body) (.take 0 (.take 1 (.take 2 (.take 4 (.take 5 (.take 7 (.take 8 (.take 9 (.take 11 (.take 12 (.take 13 (.take 14 (.one 3 (.one 6 (.one 10 (.one 15 (.one 16 (.one 17 (.one 18 (.one 19 (.take 20 .done))))))))))))))))))))) ae ae ae G (λ_ _ _ _ h=>h) ⟨Ql,Z6⟩ ?_;generalize D.drew=X at Ql Z6 E⊢;have Qc:hH (ii X X X):=O (jM _ _);iterate 2 refine aP ?_
  refine sf ?_;refine aP ?_;refine sf ?_;iterate 2 refine aP ?_
  refine sf ?_;iterate 2 refine aP ?_
  refine sf ?_
  (refine ay (v:=?_) rfl ag (λt C=>?_) ?_;rotate_left;(have kc:=gI C.2;rw[pH]at kc;go_simp;with_reducible rfl);refine L ?_)
  refine ai rfl (λy f=>?_);go_simp;refine(iu x.node X).mono ?_;rintro e x1 ⟨rfl,d⟩;have Sl:=Z Ql d;have bc:=O (Z6.below d);have PD:=ac Qc d;clear Ql Z6 Qc;clear d;refine f _ _ ⟨Sl,bc⟩ λ_=>?_
  clear f;refine L ?_;refine ai rfl (λy f=>?_);go_simp;refine(iu x.lev x1).mono ?_;rintro e x2 ⟨rfl,d⟩;have PK:=Z Sl d;have bd:=O (bc.below d);have P7:=ac PD d;clear Sl bc PD;clear d;refine f _ _ ⟨PK,bd⟩ λ_=>?_
  clear f;refine L ?_;refine ai rfl (λy f=>?_);go_simp;refine(iu x.u x2).mono ?_;rintro e x3 ⟨rfl,d⟩;have Sj:=Z PK d;have WY:=O (bd.below d);have Qw:=ac P7 d;clear PK bd P7;clear d;refine f _ _ ⟨Sj,WY⟩ λ_=>?_
  clear f;refine L ?_;refine ai rfl (λy f=>?_);go_simp;refine(uq (ofB x.body) x3).mono ?_;rintro e x4 ⟨rfl,d⟩;have SD:=Z Sj d;have bf:=O (WY.below d);have Tx:=ac Qw d;clear Sj WY Qw;clear d;refine f _ _ ⟨SD,bf⟩ λ_=>?_
  clear f;refine L ?_;refine ai rfl (λy f=>?_);go_simp;have d:=af x4 (hK #[I N 1,I N x.node,hQ ⟨#[]⟩,T hF 0 0,I N 1,I N x.lev,hQ ⟨#[]⟩,T hF 0 0,I N 1,I N x.u,hQ ⟨#[]⟩,T hF 0 0,I N 2,I N 0,hQ (ofB x.body),T hF 0 0] 43);have F:=je x4 (hK #[I N 1,I N x.node,hQ ⟨#[]⟩,T hF 0 0,I N 1,I N x.lev,hQ ⟨#[]⟩,T hF 0 0,I N 1,I N x.u,hQ ⟨#[]⟩,T hF 0 0,I N 2,I N 0,hQ (ofB x.body),T hF 0 0] 43);obtain⟨x5,r⟩:=J (x4.alloc (hK #[I N 1,I N x.node,hQ ⟨#[]⟩,T hF 0 0,I N 1,I N x.lev,hQ ⟨#[]⟩,T hF 0 0,I N 1,I N x.u,hQ ⟨#[]⟩,T hF 0 0,I N 2,I N 0,hQ (ofB x.body),T hF 0 0] 43));have H:=iG x4 [I N 1,I N x.node,hQ ⟨#[]⟩,T hF 0 0,I N 1,I N x.lev,hQ ⟨#[]⟩,T hF 0 0,I N 1,I N x.u,hQ ⟨#[]⟩,T hF 0 0,I N 2,I N 0,hQ (ofB x.body),T hF 0 0] 43 4 4 X.heap.size Tx.size rfl G;replace H:(x4.alloc (hK #[I N 1,I N x.node,hQ ⟨#[]⟩,T hF 0 0,I N 1,I N x.lev,hQ ⟨#[]⟩,T hF 0 0,I N 1,I N x.u,hQ ⟨#[]⟩,T hF 0 0,I N 2,I N 0,hQ (ofB x.body),T hF 0 0] 43)).ownsRow X.heap.size 43 4 (T (A ⟨x4,0,hF⟩) 4 4) 4 [I N 1,I N x.node,hQ ⟨#[]⟩,T hF 0 0,I N 1,I N x.lev,hQ ⟨#[]⟩,T hF 0 0,I N 1,I N x.u,hQ ⟨#[]⟩,T hF 0 0,I N 2,I N 0,hQ (ofB x.body),T hF 0 0]:=H;rw[<-r]at H;obtain⟨n,Zh⟩:∃p:Option jw,p=A ⟨x4,0,hF⟩:=⟨_,rfl⟩;rw[<-Zh]at H⊢;clear Zh;rw[<-r]at d F⊢;have R4:=Z SD d;have bg:=O (bf.below d);have Wb:=ac Tx d;clear SD bf Tx;have a2:=O F;clear F r d;refine f _ _ ⟨R4,bg⟩ λ_=>?_
  clear f;have Sg:=O H;clear H a2;refine L ?_;refine ai rfl (λy f=>?_);go_simp;refine(lP n 4 4 x5).mono ?_;rintro e x6 ⟨rfl,d⟩;have VH:=Z R4 d;have bh:=O (bg.below d);have a2:=ac Wb d;have Zw:=aE Sg d;clear R4 bg Wb Sg;clear d;refine f _ _ ⟨VH,bh⟩ λ_=>?_
  clear f;refine L ?_;refine ai rfl (λy f=>?_);go_simp;have d:=af x6 (hK #[I N 3,I N 0,hQ ⟨#[]⟩,T n 4 4] 43);have F:=je x6 (hK #[I N 3,I N 0,hQ ⟨#[]⟩,T n 4 4] 43);obtain⟨x7,r⟩:=J (x6.alloc (hK #[I N 3,I N 0,hQ ⟨#[]⟩,T n 4 4] 43));have Q4:bW (x6.alloc (hK #[I N 3,I N 0,hQ ⟨#[]⟩,T n 4 4] 43)) (T (A ⟨x6,0,hF⟩) 1 1) 4 1 [I N 3,I N 0,hQ ⟨#[]⟩,T n 4 4]:=ei x6 [I N 3,I N 0,hQ ⟨#[]⟩,T n 4 4] 43 (0,0) 4 1 1 rfl (jc _);rw[<-r]at Q4;have PT:=O Q4;clear Q4;rw[<-r]at d F⊢;have Zx:=Z VH d;have bv:=O (bh.below d);have bk:=ac a2 d;have bq:=aE Zw d;clear VH bh a2 Zw;have bw:=O F;clear F r d;refine f _ _ ⟨Zx,bv⟩ λ_=>?_
  clear f;clear bw;refine L ?_;refine ai rfl (λy f=>?_);rw[if_pos ag];have PH:=O (E.later bk);have Yu:hH (ao (λg=>W<=g/\g<x7.heap.size/\(jD pv i cv).ownBlock≠A g) x7 (Bx.val x) (T n 4 4)):=O (by
   unfold Bx.val;rw[vL,ao];refine⟨pr 4 bE,ah.of_own bq (E.fresh bk bq),?_⟩;exact ax.cons (dO _) (ax.cons (dO _) (ax.cons (dO _) (ax.cons (lE _) (ax.nil)))))
  refine ig _ _ rfl W (T pv i cv) _ _ rfl PH.own _ 1 _ rfl PT (by simp[jn]) (by rw[TB];omega) PH.sz λv' wf HG=>?_
  have Pj:=HG.own;rw[TB]at Pj;obtain⟨pn,cn,rfl⟩:=aL Pj;have WC:=O (PH.push (x:=Bx.val x) Yu HG);refine f _ _ ⟨dW Zx HG.grown RY,((bo.keep λg s=>(WC.low.block g (jg s bm)).trans (S.block g s)).bytes)⟩ λ_=>?_
  clear f Pj HG PH Yu PT bq bk Zx bv E;refine L ?_;refine aP ?_;refine jt ?_
  go_wp2_with fail
  refine⟨⟨i+1,_,_,rfl,by go_num,by omega,by rw[Rf,jX];exact WC⟩,?_⟩;simp only[jo];omega
 have hd:=ar ((i:Int)<(R:Int));have PX:=ar (i<R);have ba:c.box.take i=c.box:=jN (by rw[<-S0];omega);replace m:hH (Bls W W2 wr (c.box.map Bx.val) vr us):=O (by rw[<-ba];exact m);clear ba Pu;obtain⟨Ub,T9,Q⟩:=aL m.own;rw[jd,<-S0]at Q;subst Q;have bq:=O m.fin;have O8:hH (ii w w wr):=O (S.trans (m.low.mono bm));have bv:hH (b<wr.heap.size):=O (jg bu m.sz);have bw:hH (W<=wr.heap.size):=O m.sz;replace WE:hH (ao (λg=>M<=g/\g<W) wr (vL (c.chg.map Chg.val)) (T TV K TU)):=O (ao.keep (λg s=>m.low.block g s.2) _ _ (by have h:=WE.out;rw[<-Qk]at h;exact h))
 go_upto_region 13 with fail
 clear m U5 cL hi a4 hd PX ajV S bs;rename hZ=>W3;rename hH (cD W3 b c q)=>ajY;obtain⟨c0,c1,R1,Rq,T8,S7,S8,Vp,Vr⟩:=eK c q u.plen u.clen;have U5:=O S8;obtain⟨ub,⟨Vq,p1,q1,ad,UY,bb,Qr⟩,bl⟩:=u.wel;have bC:=O bl;clear bl;obtain⟨S,TA⟩:=J c.wel.length;rw[ad]at U5;rw[<-TA]at U5 l4 UY;have Wk:=O TA;have PM:=O Qr;clear c0 c1 R1 Rq T8 S7 S8 Vp Vr Vq ad bb TA Qr;obtain⟨M3,Ys⟩:=J W3.heap.size;have Qa:hH (Bls M3 W3 (W3.alloc (hK #[] 43)) [] (T (A ⟨M3,0,hF⟩) 0 0) []):=O (by rw[Ys];exact Bls.start W3);have QI:=O Ys;have bs:hH (b<M3):=O (by rw[Ys];exact bv);have bl:hH (w.heap.size<=M3):=O (by rw[Ys];exact O8.size);clear Ys
 go_wp2_with fail
 rw[<-QI]
 go_loopw [9,10] (λv3 v wr=>∃(i:Nat) (vr:hU) (us:List hU),vr=v3/\v=I N i/\i<=S/\hH (Bls M3 W3 wr ((c.wel.take i).map Wl.val) vr us)) (λ_ v _=>S-(jo v).toNat)
 case atStart=>exact⟨0,_,[],rfl,rfl,jC _,Qa⟩
 clear Qa;obtain⟨i,vr,us,rfl,rfl,hi,m⟩:=hrel;have a3:hH (cD wr b c q):=O (ajY.keep (m.low.block b bs));have cL:=a3.get U5
 by_cases a4:i<S
 ·have hd:=ap ((i:Int)<(S:Int))
  have PX:=ap (i<S);obtain⟨g,o,rfl,al,a5⟩:=PM (aw Wk);obtain⟨x,r,SK⟩:=mY (l:=c.wel) (j:=i) (by rw[<-Wk];exact a4);have QH:wr.heap[g]?=w.heap[g]?:=(m.low.block g (jg al bl)).trans (O8.block g al);obtain⟨ux,Ti,RD⟩:=bC.at (i:=i) (b:=x.body) (by rw[jU,r];rfl);obtain⟨z,B,rfl⟩:=RD.form;have P:=λk hk=>(bz (a:=⟨g,o+(i*3+k),hF⟩) QH).trans (a5 (i*3+k) _ ((nZ Wl.cells 3 (λ_ _=>rfl) c.wel ub i k x _ r Ti hk).trans (show(x.cells (T z x.body.length B))[k]?=A ((x.cells (T z x.body.length B)).getD k (I N 0)) by have:(x.cells (T z x.body.length B)).length=3:=rfl;simp[jV,jO (show k<(x.cells (T z x.body.length B)).length by omega)])))
  have d0:wr.cell? ⟨g,o+i*3,hF⟩=A (I N x.dev):=P 0 G;have d1:wr.cell? ⟨g,o+i*3+1,hF⟩=A (I N x.u):=P 1 G;have d2:wr.cell? ⟨g,o+i*3+2,hF⟩=A (T z x.body.length B):=P 2 G;clear Ti;have Rf:=O SK;clear QH P a5 r SK al;obtain⟨pv,cv,Q⟩:=aL m.own;have au:((c.wel.take i).map Wl.val).length=i:=by rw[jd,jI,<-Wk];omega
  rw[au]at Q;have TB:=O au;subst Q;clear au
  go_upto_region 18 with fail
  obtain⟨bx,a1⟩:=J wr.heap.size;have aa:=je wr (hK #[I N x.dev,I N x.u,T z x.body.length B] 75);have U:=af wr (hK #[I N x.dev,I N x.u,T z x.body.length B] 75);have RY:hH ((jD pv i cv).ownBlock≠A bx):=O (bU m.own (.inl (jA a1.symm)));rw[<-a1]at aa⊢;obtain⟨D,Ru⟩:=J (wr.alloc (hK #[I N x.dev,I N x.u,T z x.body.length B] 75));rw[<-Ru]at aa U⊢;have E:hH (Bls M3 W3 D ((c.wel.take i).map Wl.val) (T pv i cv) us):=O (m.later U);have HE:=O aa;clear aa U Ru a1 m a3 cL d0 d1 d2;have bo:=O RD;have Ql:hH (D.drew.heap[bx]?=A (hK #[I N x.dev,I N x.u,T z x.body.length B] 75 (0,0))):=HE;have Z6:hH (BytesAt D.drew (T z x.body.length B) x.body):=O ((RD.keep λg s=>(E.low.block g (jg s bl)).trans (O8.block g s)).bytes);replace E:=O (E.later (aQ D));clear RD HE;refine ju ?_;refine aY (λt=>t.heap[bx]?=A (hK #[I N x.dev,I N x.u,T z x.body.length B] 75 (0,0))/\BytesAt t (T z x.body.length B) x.body) (.take 0 (.take 1 (.take 2 (.take 4 (.take 5 (.take 6 (.take 8 (.take 9 (.take 10 (.take 11 (.one 3 (.one 7 (.one 12 (.one 13 (.one 14 (.one 15 (.one 16 (.take 17 .done)))))))))))))))))) ae ae ae G (λ_ _ _ _ h=>h) ⟨Ql,Z6⟩ ?_;generalize D.drew=X at Ql Z6 E⊢;have Qc:hH (ii X X X):=O (jM _ _);iterate 2 refine aP ?_
  refine vP ?_;iterate 2 refine aP ?_
  refine vP ?_;iterate 2 refine aP ?_
  refine vP ?_
  (refine ay (v:=?_) rfl ag (λt C=>?_) ?_;rotate_left;(have kc:=gI C.2;rw[pH]at kc;go_simp;with_reducible rfl);refine L ?_)
  refine ai rfl (λy f=>?_);go_simp;refine(iu x.dev X).mono ?_;rintro e x1 ⟨rfl,d⟩;have Sl:=Z Ql d;have bc:=O (Z6.below d);have PD:=ac Qc d;clear Ql Z6 Qc;clear d;refine f _ _ ⟨Sl,bc⟩ λ_=>?_
  clear f;refine L ?_;refine ai rfl (λy f=>?_);go_simp;refine(iu x.u x1).mono ?_;rintro e x2 ⟨rfl,d⟩;have PK:=Z Sl d;have bd:=O (bc.below d);have P7:=ac PD d;clear Sl bc PD;clear d;refine f _ _ ⟨PK,bd⟩ λ_=>?_
  clear f;refine L ?_;refine ai rfl (λy f=>?_);go_simp;refine(uq (ofB x.body) x2).mono ?_;rintro e x3 ⟨rfl,d⟩;have Sj:=Z PK d;have WY:=O (bd.below d);have Qw:=ac P7 d;clear PK bd P7;clear d;refine f _ _ ⟨Sj,WY⟩ λ_=>?_
  clear f;refine L ?_;refine ai rfl (λy f=>?_);go_simp;have d:=af x3 (hK #[I N 1,I N x.dev,hQ ⟨#[]⟩,T hF 0 0,I N 1,I N x.u,hQ ⟨#[]⟩,T hF 0 0,I N 2,I N 0,hQ (ofB x.body),T hF 0 0] 43);have F:=je x3 (hK #[I N 1,I N x.dev,hQ ⟨#[]⟩,T hF 0 0,I N 1,I N x.u,hQ ⟨#[]⟩,T hF 0 0,I N 2,I N 0,hQ (ofB x.body),T hF 0 0] 43);obtain⟨x4,r⟩:=J (x3.alloc (hK #[I N 1,I N x.dev,hQ ⟨#[]⟩,T hF 0 0,I N 1,I N x.u,hQ ⟨#[]⟩,T hF 0 0,I N 2,I N 0,hQ (ofB x.body),T hF 0 0] 43));have H:=iG x3 [I N 1,I N x.dev,hQ ⟨#[]⟩,T hF 0 0,I N 1,I N x.u,hQ ⟨#[]⟩,T hF 0 0,I N 2,I N 0,hQ (ofB x.body),T hF 0 0] 43 4 3 X.heap.size Qw.size rfl G;replace H:(x3.alloc (hK #[I N 1,I N x.dev,hQ ⟨#[]⟩,T hF 0 0,I N 1,I N x.u,hQ ⟨#[]⟩,T hF 0 0,I N 2,I N 0,hQ (ofB x.body),T hF 0 0] 43)).ownsRow X.heap.size 43 4 (T (A ⟨x3,0,hF⟩) 3 3) 3 [I N 1,I N x.dev,hQ ⟨#[]⟩,T hF 0 0,I N 1,I N x.u,hQ ⟨#[]⟩,T hF 0 0,I N 2,I N 0,hQ (ofB x.body),T hF 0 0]:=H;rw[<-r]at H;obtain⟨n,Zh⟩:∃p:Option jw,p=A ⟨x3,0,hF⟩:=⟨_,rfl⟩;rw[<-Zh]at H⊢;clear Zh;rw[<-r]at d F⊢;have SD:=Z Sj d;have bf:=O (WY.below d);have Tx:=ac Qw d;clear Sj WY Qw;have U:=O F;clear F r d;refine f _ _ ⟨SD,bf⟩ λ_=>?_
  clear f;have P:=O H;clear H U;refine L ?_;refine ai rfl (λy f=>?_);go_simp;refine(lP n 3 3 x4).mono ?_;rintro e x5 ⟨rfl,d⟩;have R4:=Z SD d;have bg:=O (bf.below d);have Wb:=ac Tx d;have Sg:=aE P d;clear SD bf Tx P;clear d;refine f _ _ ⟨R4,bg⟩ λ_=>?_
  clear f;refine L ?_;refine ai rfl (λy f=>?_);go_simp;have d:=af x5 (hK #[I N 3,I N 0,hQ ⟨#[]⟩,T n 3 3] 43);have F:=je x5 (hK #[I N 3,I N 0,hQ ⟨#[]⟩,T n 3 3] 43);obtain⟨x6,r⟩:=J (x5.alloc (hK #[I N 3,I N 0,hQ ⟨#[]⟩,T n 3 3] 43));have Q4:bW (x5.alloc (hK #[I N 3,I N 0,hQ ⟨#[]⟩,T n 3 3] 43)) (T (A ⟨x5,0,hF⟩) 1 1) 4 1 [I N 3,I N 0,hQ ⟨#[]⟩,T n 3 3]:=ei x5 [I N 3,I N 0,hQ ⟨#[]⟩,T n 3 3] 43 (0,0) 4 1 1 rfl (jc _);rw[<-r]at Q4;have PT:=O Q4;clear Q4;rw[<-r]at d F⊢;have VH:=Z R4 d;have bh:=O (bg.below d);have a2:=ac Wb d;have Zw:=aE Sg d;clear R4 bg Wb Sg;have P:=O F;clear F r d;refine f _ _ ⟨VH,bh⟩ λ_=>?_
  clear f;clear P;refine L ?_;refine ai rfl (λy f=>?_);rw[if_pos ag];have PH:=O (E.later a2);have Yu:hH (ao (λg=>M3<=g/\g<x6.heap.size/\(jD pv i cv).ownBlock≠A g) x6 (Wl.val x) (T n 3 3)):=O (by
   unfold Wl.val;rw[vL,ao];refine⟨pr 3 bE,ah.of_own Zw (E.fresh a2 Zw),?_⟩;exact ax.cons (dO _) (ax.cons (dO _) (ax.cons (lE _) (ax.nil))))
  refine ig _ _ rfl M3 (T pv i cv) _ _ rfl PH.own _ 1 _ rfl PT (by simp[jn]) (by rw[TB];omega) PH.sz λv' wf HG=>?_
  have Pj:=HG.own;rw[TB]at Pj;obtain⟨pn,cn,rfl⟩:=aL Pj;have WC:=O (PH.push (x:=Wl.val x) Yu HG);refine f _ _ ⟨dW VH HG.grown RY,((bo.keep λg s=>(WC.low.block g (jg s bl)).trans (O8.block g s)).bytes)⟩ λ_=>?_
  clear f Pj HG PH Yu PT Zw a2 VH bh E;refine L ?_;refine aP ?_;refine jt ?_
  go_wp2_with fail
  refine⟨⟨i+1,_,_,rfl,by go_num,by omega,by rw[Rf,jX];exact WC⟩,?_⟩;simp only[jo];omega
 have hd:=ar ((i:Int)<(S:Int));have PX:=ar (i<S);have ba:c.wel.take i=c.wel:=jN (by rw[<-Wk];omega);replace m:hH (Bls M3 W3 wr (c.wel.map Wl.val) vr us):=O (by rw[<-ba];exact m);clear ba PM;obtain⟨k,p,Q⟩:=aL m.own;rw[jd,<-Wk]at Q;subst Q;have U:=O m.fin;have x:hH (ii w w wr):=O (O8.trans (m.low.mono bl));have bd:hH (b<wr.heap.size):=O (jg bs m.sz);have aa:hH (M3<=wr.heap.size):=O m.sz;replace WE:hH (ao (λg=>M<=g/\g<W) wr (vL (c.chg.map Chg.val)) (T TV K TU)):=O (ao.keep (λg s=>m.low.block g (dP bw QI)) _ _ WE.out);replace bq:hH (ao (λg=>W<=g/\g<M3) wr (vL (c.box.map Bx.val)) (T Ub R T9)):=O (ao.keep (λg s=>m.low.block g s.2) _ _ (by have h:=bq.out;rw[<-QI]at h;exact h))
 go_upto_region 19 with fail
 clear m U5 cL hi a4 hd PX ajY O8 bv;rename hZ=>W4;rename hH (cD W4 b c q)=>aj4;obtain⟨c0,c1,R1,Rq,T8,S7,S8,Vp,Vr⟩:=eK c q u.plen u.clen;have B:=O u.path;obtain⟨Vq,pp,qp,ad,UY,bb,Qr⟩:=u.path;rw[ad]at T8 B;have ZT:hH (Pl[0]?=A (I N c.folder)):=O (by rw[R0];simpa using c0);have Tk:hH (Pl[1]?=A (I N c.epoch)):=O (by rw[R0];simpa using c1);have al:hH (Pl[34]?=A (I N c.author)):=O (by rw[R0];simpa using R1);have au:hH (Pl[36]?=A (T pp c.path.length qp)):=O (by rw[R0];simpa using T8);have a1:hH (Pl[71]?=A (I N c.r)):=O (by rw[R0];simpa using Vp);have a4:hH (Pl[72]?=A (I N c.s)):=O (by rw[R0];simpa using Vr);have a5:hH ((ih.info? 23).map (·.size)=A (c.parent.map v8).length):=O (by rw[jd,u.plen];kernel_rfl);have WW:hH ((ih.info? 23).map (·.size)=A (c.confirm.map v8).length):=O (by rw[jd,u.clen];kernel_rfl);have ba:hH (∀t:hZ,t.heap[b]?=A (hK Pl 31 (0,0))->t.rangeAt b 2 (c.parent.map v8)):=O (λt C=>pP (o:=2) C (λj v z=>by
  have m:j<32:=by have:=(j5.1 z).1;rw[jd,u.plen]at this;exact this
  have h:=tZ c q u.plen m;rw[R0,ql,h,<-z,jU,jO (by rw[u.plen];exact m)];simp[v8,jV,u.plen,m]))
 have bc:hH (∀t:hZ,t.heap[b]?=A (hK Pl 31 (0,0))->t.rangeAt b 39 (c.confirm.map v8)):=O (λt C=>pP (o:=39) C (λj v z=>by
  have m:j<32:=by have:=(j5.1 z).1;rw[jd,u.clen]at this;exact this
  have h:=Bv c q u.plen u.clen m;rw[R0,ql,h,<-z,jU,jO (by rw[u.clen];exact m)];simp[v8,jV,u.clen,m]))
 have Ql:hH (W4.drew.heap[b]?=A (hK Pl 31 (0,0))):=O (by rw[R0];exact aj4.blk);have Qc:hH (ii W4 W4 W4.drew):=O (aQ W4);clear c0 c1 R1 Rq T8 S7 S8 Vp Vr Vq ad UY bb Qr aj4;refine ju ?_;refine aY (λt=>t.heap[b]?=A (hK Pl 31 (0,0))) (.take 0 (.take 1 (.take 3 (.take 4 (.take 6 (.take 7 (.take 9 (.take 10 (.take 12 (.take 14 (.take 15 (.take 17 (.take 19 (.take 21 (.take 22 (.take 24 (.take 25 (.take 26 (.take 28 (.take 29 (.take 30 (.one 2 (.one 5 (.one 8 (.one 11 (.one 13 (.one 16 (.one 18 (.one 20 (.one 23 (.one 27 (.one 31 (.one 32 (.take 33 .done)))))))))))))))))))))))))))))))))) ae ae ae G (λ_ _ _ _ h=>h) Ql ?_;generalize W4.drew=X at Ql Qc⊢;refine aP ?_
 (refine ay (v:=?_) rfl ag (λt C=>?_) ?_;rotate_left;(have j:=cell_of C ZT;go_simp;with_reducible rfl);refine L ?_)
 refine aP ?_
 (refine ay (v:=?_) rfl ag (λt C=>?_) ?_;rotate_left;(have j:=cell_of C Tk;go_simp;with_reducible rfl);refine L ?_)
 refine aP ?_
 (refine ay (v:=ic (c.parent.map v8).toArray) rfl ag (λt C=>m6 j3 rfl a5 rfl rfl (ba t C)) ?_;refine L ?_)
 refine aP ?_
 (refine ay (v:=?_) rfl ag (λt C=>?_) ?_;rotate_left;(have j:=cell_of C al;go_simp;with_reducible rfl);refine L ?_)
 iterate 2 refine aP ?_
 (refine ay (v:=?_) rfl ag (λt C=>?_) ?_;rotate_left;(have j:=cell_of C au;go_simp;with_reducible rfl);refine L ?_)
 iterate 3 refine aP ?_
 (refine ay (v:=ic (c.confirm.map v8).toArray) rfl ag (λt C=>m6 j3 rfl WW rfl rfl (bc t C)) ?_;refine L ?_)
 iterate 2 refine aP ?_
 (refine ay (v:=?_) rfl ag (λt C=>?_) ?_;rotate_left;(have j:=cell_of C a1;go_simp;with_reducible rfl);refine L ?_)
 iterate 2 refine aP ?_
 (refine ay (v:=?_) rfl ag (λt C=>?_) ?_;rotate_left;(have j:=cell_of C a4;go_simp;with_reducible rfl);refine L ?_)
 refine ai rfl (λy f=>?_);go_simp;refine(iu c.folder X).mono ?_;rintro e x1 ⟨rfl,d⟩;have Sl:=Z Ql d;have PD:=ac Qc d;clear Ql Qc;clear d;refine f _ _ Sl.out λ_=>?_
 clear f;refine L ?_;refine ai rfl (λy f=>?_);go_simp;refine(iu c.epoch x1).mono ?_;rintro e x2 ⟨rfl,d⟩;have PK:=Z Sl d;have P7:=ac PD d;clear Sl PD;clear d;refine f _ _ PK.out λ_=>?_
 clear f;refine L ?_;refine ai rfl (λy f=>?_);go_simp;refine(Ec c.parent u.plen x2).mono ?_;rintro e x3 ⟨rfl,d⟩;have Sj:=Z PK d;have Qw:=ac P7 d;clear PK P7;clear d;refine f _ _ Sj.out λ_=>?_
 clear f;refine L ?_;refine ai rfl (λy f=>?_);go_simp;refine(iu c.author x3).mono ?_;rintro e x4 ⟨rfl,d⟩;have SD:=Z Sj d;have Tx:=ac Qw d;clear Sj Qw;clear d;refine f _ _ SD.out λ_=>?_
 clear f;refine L ?_;refine ai rfl (λy f=>?_);go_simp;refine(lP TV K TU x4).mono ?_;rintro e x5 ⟨rfl,d⟩;have R4:=Z SD d;have Wb:=ac Tx d;clear SD Tx;clear d;refine f _ _ R4.out λ_=>?_
 clear f;refine L ?_;refine ai rfl (λy f=>?_);go_simp;refine(yN c.path _ x5 (ah.ints (B.keep λg s=>((x.trans (Wb.mono x.size)).block g s))) Y).mono ?_;rintro e x6 ⟨up,rfl,j,d⟩;obtain⟨n,V,rfl⟩:=aL j;have m:hH (x6.ownsRow W4 43 4 (T n c.path.length V) c.path.length (dB c.path)):=O (kX j Wb.size);clear j;have VH:=Z R4 d;have a2:=ac Wb d;clear R4 Wb;clear d;refine f _ _ VH.out λ_=>?_
 clear f;refine L ?_;refine ai rfl (λy f=>?_);go_simp;refine(lP Ub R T9 x6).mono ?_;rintro e x7 ⟨rfl,d⟩;have Zx:=Z VH d;have bk:=ac a2 d;have o:=aE m d;clear VH a2 m;clear d;refine f _ _ Zx.out λ_=>?_
 clear f;refine L ?_;refine ai rfl (λy f=>?_);go_simp;refine(lP k S p x7).mono ?_;rintro e x8 ⟨rfl,d⟩;have j:=Z Zx d;have t:=ac bk d;have z:=aE o d;clear Zx bk o;clear d;refine f _ _ j.out λ_=>?_
 clear f;refine L ?_;refine ai rfl (λy f=>?_);go_simp;refine(Ec c.confirm u.clen x8).mono ?_;rintro e x9 ⟨rfl,d⟩;have m:=Z j d;have C:=ac t d;have D:=aE z d;clear j t z;clear d;refine f _ _ m.out λ_=>?_
 clear f;refine L ?_;refine ai rfl (λy f=>?_);go_simp;refine(iu c.r x9).mono ?_;rintro e VG ⟨rfl,d⟩;have o:=Z m d;have E:=ac C d;have P:=aE D d;clear m C D;clear d;refine f _ _ o.out λ_=>?_
 clear f;refine L ?_;refine ai rfl (λy f=>?_);go_simp;refine(iu c.s VG).mono ?_;rintro e j ⟨rfl,d⟩;have t:=Z o d;have z:=ac E d;have C:=aE P d;clear o E P;clear d;refine f _ _ t.out λ_=>?_
 clear f;refine L ?_;refine ai rfl (λy f=>?_);go_simp;have d:=af j (hK #[I N 1,I N c.folder,hQ ⟨#[]⟩,T hF 0 0,I N 1,I N c.epoch,hQ ⟨#[]⟩,T hF 0 0,I N 2,I N 0,hQ (ofB c.parent),T hF 0 0,I N 1,I N c.author,hQ ⟨#[]⟩,T hF 0 0,I N 3,I N 0,hQ ⟨#[]⟩,T TV K TU,I N 3,I N 0,hQ ⟨#[]⟩,T n c.path.length V,I N 3,I N 0,hQ ⟨#[]⟩,T Ub R T9,I N 3,I N 0,hQ ⟨#[]⟩,T k S p,I N 2,I N 0,hQ (ofB c.confirm),T hF 0 0,I N 1,I N c.r,hQ ⟨#[]⟩,T hF 0 0,I N 1,I N c.s,hQ ⟨#[]⟩,T hF 0 0] 43);have F:=je j (hK #[I N 1,I N c.folder,hQ ⟨#[]⟩,T hF 0 0,I N 1,I N c.epoch,hQ ⟨#[]⟩,T hF 0 0,I N 2,I N 0,hQ (ofB c.parent),T hF 0 0,I N 1,I N c.author,hQ ⟨#[]⟩,T hF 0 0,I N 3,I N 0,hQ ⟨#[]⟩,T TV K TU,I N 3,I N 0,hQ ⟨#[]⟩,T n c.path.length V,I N 3,I N 0,hQ ⟨#[]⟩,T Ub R T9,I N 3,I N 0,hQ ⟨#[]⟩,T k S p,I N 2,I N 0,hQ (ofB c.confirm),T hF 0 0,I N 1,I N c.r,hQ ⟨#[]⟩,T hF 0 0,I N 1,I N c.s,hQ ⟨#[]⟩,T hF 0 0] 43);obtain⟨m,r⟩:=J (j.alloc (hK #[I N 1,I N c.folder,hQ ⟨#[]⟩,T hF 0 0,I N 1,I N c.epoch,hQ ⟨#[]⟩,T hF 0 0,I N 2,I N 0,hQ (ofB c.parent),T hF 0 0,I N 1,I N c.author,hQ ⟨#[]⟩,T hF 0 0,I N 3,I N 0,hQ ⟨#[]⟩,T TV K TU,I N 3,I N 0,hQ ⟨#[]⟩,T n c.path.length V,I N 3,I N 0,hQ ⟨#[]⟩,T Ub R T9,I N 3,I N 0,hQ ⟨#[]⟩,T k S p,I N 2,I N 0,hQ (ofB c.confirm),T hF 0 0,I N 1,I N c.r,hQ ⟨#[]⟩,T hF 0 0,I N 1,I N c.s,hQ ⟨#[]⟩,T hF 0 0] 43));have H:=iG j [I N 1,I N c.folder,hQ ⟨#[]⟩,T hF 0 0,I N 1,I N c.epoch,hQ ⟨#[]⟩,T hF 0 0,I N 2,I N 0,hQ (ofB c.parent),T hF 0 0,I N 1,I N c.author,hQ ⟨#[]⟩,T hF 0 0,I N 3,I N 0,hQ ⟨#[]⟩,T TV K TU,I N 3,I N 0,hQ ⟨#[]⟩,T n c.path.length V,I N 3,I N 0,hQ ⟨#[]⟩,T Ub R T9,I N 3,I N 0,hQ ⟨#[]⟩,T k S p,I N 2,I N 0,hQ (ofB c.confirm),T hF 0 0,I N 1,I N c.r,hQ ⟨#[]⟩,T hF 0 0,I N 1,I N c.s,hQ ⟨#[]⟩,T hF 0 0] 43 4 11 w.heap.size (jk x.size z.size) rfl G;replace H:(j.alloc (hK #[I N 1,I N c.folder,hQ ⟨#[]⟩,T hF 0 0,I N 1,I N c.epoch,hQ ⟨#[]⟩,T hF 0 0,I N 2,I N 0,hQ (ofB c.parent),T hF 0 0,I N 1,I N c.author,hQ ⟨#[]⟩,T hF 0 0,I N 3,I N 0,hQ ⟨#[]⟩,T TV K TU,I N 3,I N 0,hQ ⟨#[]⟩,T n c.path.length V,I N 3,I N 0,hQ ⟨#[]⟩,T Ub R T9,I N 3,I N 0,hQ ⟨#[]⟩,T k S p,I N 2,I N 0,hQ (ofB c.confirm),T hF 0 0,I N 1,I N c.r,hQ ⟨#[]⟩,T hF 0 0,I N 1,I N c.s,hQ ⟨#[]⟩,T hF 0 0] 43)).ownsRow w.heap.size 43 4 (T (A ⟨j,0,hF⟩) 11 11) 11 [I N 1,I N c.folder,hQ ⟨#[]⟩,T hF 0 0,I N 1,I N c.epoch,hQ ⟨#[]⟩,T hF 0 0,I N 2,I N 0,hQ (ofB c.parent),T hF 0 0,I N 1,I N c.author,hQ ⟨#[]⟩,T hF 0 0,I N 3,I N 0,hQ ⟨#[]⟩,T TV K TU,I N 3,I N 0,hQ ⟨#[]⟩,T n c.path.length V,I N 3,I N 0,hQ ⟨#[]⟩,T Ub R T9,I N 3,I N 0,hQ ⟨#[]⟩,T k S p,I N 2,I N 0,hQ (ofB c.confirm),T hF 0 0,I N 1,I N c.r,hQ ⟨#[]⟩,T hF 0 0,I N 1,I N c.s,hQ ⟨#[]⟩,T hF 0 0]:=H;rw[<-r]at H;have D:=O H;clear H;rw[<-r]at d F⊢;have E:=Z t d;have o:=ac z d;have y:=aE C d;clear t z C;have C:=O F;clear F r d;refine f _ _ E.out λ_=>?_
 clear f;refine L ?_;refine aP ?_;refine jt ?_
 go_wp2_with fail
 go_ret;have d:∀g,(M<=g/\g<W4.heap.size)->(w.heap.size<=g/\g<m.heap.size):=λg s=>⟨jk bn s.1,jg s.2 o.size⟩
 have f:∀g,(M<=g/\g<W4.heap.size)->m.heap[g]?=W4.heap[g]?:=λg s=>o.block g s.2
 have F:M<=W:=by have:=bA.out;have:=Qk.out;omega
 have H:W<=M3:=by have:=bw.out;have:=QI.out;omega
 have P:M3<=W4.heap.size:=aa.out;have r:ao (λg=>w.heap.size<=g/\g<m.heap.size) m (vL (c.path.map vI)) (T n c.path.length V):=lR y (λg s=>by
  have h:=y.lt g s;exact⟨jk x.size h.1,h.2⟩)
 have h:ao (λg=>M<=g/\g<W4.heap.size) W4 (vL (c.chg.map Chg.val)) (T TV K TU):=ao.mono (λg s=>⟨s.1,by omega⟩) _ _ WE.out;have t:ao (λg=>M<=g/\g<W4.heap.size) W4 (vL (c.box.map Bx.val)) (T Ub R T9):=ao.mono (λg s=>⟨by omega,by omega⟩) _ _ bq.out;have z:ao (λg=>M<=g/\g<W4.heap.size) W4 (vL (c.wel.map Wl.val)) (T k S p):=ao.mono (λg s=>⟨by omega,s.2⟩) _ _ U.out;refine⟨_,rfl,⟨[bE,bE,bE,bE,T TV K TU,T n c.path.length V,T Ub R T9,T k S p,bE,bE,bE],D,?_⟩,x.trans (o.mono x.size)⟩;exact ax.cons (dO _) (ax.cons (dO _) (ax.cons (lE _) (ax.cons (dO _) (ax.cons (ao.mono d _ _ (ao.keep f _ _ h)) (ax.cons r (ax.cons (ao.mono d _ _ (ao.keep f _ _ t)) (ax.cons (ao.mono d _ _ (ao.keep f _ _ z)) (ax.cons (lE _) (ax.cons (dO _) (ax.cons (dO _) ax.nil))))))))))
theorem baI{a b:ByteArray}(h:a.toList=b.toList):a=b:=by
 rw[ByteArray.toList_eq,ByteArray.toList_eq]at h;exact ByteArray.ext (Array.toList_inj.1 h)
noncomputable def ie(x y:Val):Bool:=by classical exact decide (x=y)
theorem ts{x y:Val}(h:x=y):ie x y=true:=by unfold ie;simp[h]
theorem nj{x y:Val}(h:x≠y):ie x y=false:=by unfold ie;simp[h]
def vW(x:Val):Prop:=∀(y:Val) (a v:hU) (w:hZ),ao (·<w.heap.size) w x a->ao (·<w.heap.size) w y v->
 jb ih 35 #[ic #[I N x.k,I N x.n,hQ x.s,a],ic #[I N y.k,I N y.n,hQ y.s,v]] w λe w'=>e=ja (.bool (ie x y))/\ii w w w'
theorem pT(j n:Int)(xs:ByteArray)(l:List Val)(i:∀z∈l,vW z)(hn:l.length<=3000000):vW (.mk j n xs l):=by
 rintro⟨s,u,C,m⟩ F v w z D;show jb ih 35 #[ic #[I N j,I N n,hQ xs,F],ic #[I N s,I N u,hQ C,v]] w _;obtain⟨us,au,a⟩:=z.slice;obtain⟨vs,a1,b⟩:=D.slice;replace au:ah (·<w.heap.size) w F 4 l.length (aW l us):=au;replace a:ax (·<w.heap.size) w l us:=a;replace a1:ah (·<w.heap.size) w v 4 m.length (aW m vs):=a1;replace b:ax (·<w.heap.size) w m vs:=b;obtain⟨-,H,K,rfl,bg,-,f⟩:=au;obtain⟨-,pv,cv,rfl,bh,-,g⟩:=a1;obtain⟨d,c⟩:=J l.length;obtain⟨M,e⟩:=J m.length;obtain⟨P,h⟩:=J (ie (.mk j n xs l) (.mk s u C m));rw[<-h,<-c,<-e];rw[<-c]at hn bg f;rw[<-e]at bh g;have bk:=O a;have bl:=O b;have bm:=O f;have bn:=O g;have HN:=O c;have HM:=O e;have QC:=O i;have Q:=O h;clear a b f g c e i z D h;have g:=af w (hK #[I N j,I N n,hQ xs,T H d K] 43);have a:=je w (hK #[I N j,I N n,hQ xs,T H d K] 43);have h:=af (w.alloc (hK #[I N j,I N n,hQ xs,T H d K] 43)) (hK #[I N s,I N u,hQ C,T pv M cv] 43);have b:=je (w.alloc (hK #[I N j,I N n,hQ xs,T H d K] 43)) (hK #[I N s,I N u,hQ C,T pv M cv] 43);rw[jm]at b;replace a:=ak a h;obtain⟨E,k⟩:=J w.heap.size;have o:=g.trans (h.mono g.size);obtain⟨c,e⟩:=J ((w.alloc (hK #[I N j,I N n,hQ xs,T H d K] 43)).alloc (hK #[I N s,I N u,hQ C,T pv M cv] 43));rw[<-e,<-k]at a b;rw[<-e]at o;have HX:=O a;have HY:=O b;have f:=O o;have V:=O k;have p:=O e;have a0:=cell_of (i:=0) a rfl;have bo:=cell_of (i:=1) a rfl;have bq:=cell_of (i:=2) a rfl;have a3:=cell_of (i:=3) a rfl;have b0:=cell_of (i:=0) b rfl;have b1:=cell_of (i:=1) b rfl;have b2:=cell_of (i:=2) b rfl;have b3:=cell_of (i:=3) b rfl;clear g h a b o k e
 by_cases hk:j=s
 ·subst hk
  by_cases hm:n=u
  ·subst hm
   by_cases hs:xs=C
   ·subst hs
    by_cases a4:d=M
    ·subst a4
     have QP:hH (c.cell? ⟨E,3,hF⟩=A (T H d K)):=O a3;have WY:hH (c.cell? ⟨E+1,3,hF⟩=A (T pv d cv)):=O b3;have a2:hH (E+1<c.heap.size/\E<c.heap.size):=O ⟨(jf.1 HY).1,(jf.1 HX).1⟩
     go_enter func35,j7
     go_upto_region 1 with fail
     rw[<-p,<-V];clear p
     go_wp2_with fail
     clear a0 bo bq a3 b0 b1 b2 b3 HX HY
     go_loopw [5] (λa wr=>∃i:Nat,a=I N i/\i<=d/\hH (l.take i=m.take i)/\hH (ii c c wr)) (λa _=>d-(jo a).toNat)
     case atStart=>exact⟨0,rfl,jC _,O rfl,O (jM _ _)⟩
     obtain⟨i,rfl,hi,HT,Ze⟩:=hrel;have cA:=(bz (w':=wr) (Ze.block E a2.2)).trans QP
     by_cases al:i<d
     ·have hd:=ap ((i:Int)<(d:Int))
      have PX:=ap (i<d);obtain⟨g,o,rfl,X,k⟩:=bm Y;obtain⟨r,o2,rfl,aa,U⟩:=bn Y;obtain⟨x,z⟩:∃x,l[i]?=A x:=⟨l[i]'(by rw[<-HN];exact al),jO (by rw[<-HN];exact al)⟩;obtain⟨y,D⟩:∃x,m[i]?=A x:=⟨m[i]'(by rw[<-HM];exact al),jO (by rw[<-HM];exact al)⟩;obtain⟨R,Ti,a5⟩:=bk.at z;obtain⟨S,ba,bb⟩:=bl.at D;have ad:=λq hq=>nY l us i q x R z Ti hq
      have Yp:=λq hq=>nY m vs i q y S D ba hq
      have e:∀a F,a.block<w.heap.size->w.cell? a=A F->c.cell? a=A F:=λa F ha hu=>(bz (f.block _ ha)).trans hu
      have D0:hH (c.cell? ⟨g,o+i*4,hF⟩=A (I N x.k)):=O (e _ _ X (k (i*4+0) _ (ad 0 G)));have D1:hH (c.cell? ⟨g,o+i*4+1,hF⟩=A (I N x.n)):=O (e _ _ X (k (i*4+1) _ (ad 1 G)));have D2:hH (c.cell? ⟨g,o+i*4+2,hF⟩=A (hQ x.s)):=O (e _ _ X (k (i*4+2) _ (ad 2 G)));have D3:hH (c.cell? ⟨g,o+i*4+3,hF⟩=A R):=O (e _ _ X (k (i*4+3) _ (ad 3 G)));have E0:hH (c.cell? ⟨r,o2+i*4,hF⟩=A (I N y.k)):=O (e _ _ aa (U (i*4+0) _ (Yp 0 G)));have E1:hH (c.cell? ⟨r,o2+i*4+1,hF⟩=A (I N y.n)):=O (e _ _ aa (U (i*4+1) _ (Yp 1 G)));have E2:hH (c.cell? ⟨r,o2+i*4+2,hF⟩=A (hQ y.s)):=O (e _ _ aa (U (i*4+2) _ (Yp 2 G)));have E3:hH (c.cell? ⟨r,o2+i*4+3,hF⟩=A S):=O (e _ _ aa (U (i*4+3) _ (Yp 3 G)));have HF:=O (QC x (lv z));have B:hH (g<c.heap.size/\r<c.heap.size):=O ⟨jg X f.size,jg aa f.size⟩;have bc:hH (∀W:hZ,ii c c W->ao (·<W.heap.size) W x R/\ao (·<W.heap.size) W y S):=O (λW t=>
       ⟨ao.mono (D':=(·<W.heap.size)) (λb (h:b<w.heap.size)=>jg h (jk f.size t.size)) x R (ao.keep (λb (h:b<w.heap.size)=>(t.block b (jg h f.size)).trans (f.block b h)) x R a5),
        ao.mono (D':=(·<W.heap.size)) (λb (h:b<w.heap.size)=>jg h (jk f.size t.size)) y S (ao.keep (λb (h:b<w.heap.size)=>(t.block b (jg h f.size)).trans (f.block b h)) y S bb)⟩)
      have bd:=O z;have bf:=O D;have t:hH (ii c c wr.drew):=O (Ze.trans ((aQ wr).mono Ze.size));clear z D Ti ba a5 bb ad Yp e k U
      go_upto_region 6 with fail
      refine ju ?_;refine aY (λe=>ii c c e) (.take 0 (.take 1 (.take 2 (.take 3 (.take 4 (.take 5 (.take 6 (.take 7 (.take 8 (.take 9 (.one 10 (.take 11 .done)))))))))))) ae ae ae G (λ_ _ _ _ h=>h) t ?_;generalize wr.drew=x0 at t⊢;refine aP ?_
      (refine ay (v:=?_) rfl ag (λe b=>?_) ?_;rotate_left;(have k:=(bz (b.block E a2.2)).trans QP;go_simp;with_reducible rfl);refine L ?_)
      iterate 2 refine aP ?_
      (refine ay (v:=?_) rfl ag (λe b=>?_) ?_;rotate_left;(have U:=(bz (b.block g B.1)).trans D0;have W:=(bz (b.block g B.1)).trans D1;have k2:=(bz (b.block g B.1)).trans D2;have k3:=(bz (b.block g B.1)).trans D3;go_simp;with_reducible rfl);refine L ?_)
      refine aP ?_
      (refine ay (v:=?_) rfl ag (λe b=>?_) ?_;rotate_left;(have k:=(bz (b.block (E+1) a2.1)).trans WY;go_simp;with_reducible rfl);refine L ?_)
      iterate 2 refine aP ?_
      (refine ay (v:=?_) rfl ag (λe b=>?_) ?_;rotate_left;(have U:=(bz (b.block r B.2)).trans E0;have W:=(bz (b.block r B.2)).trans E1;have k2:=(bz (b.block r B.2)).trans E2;have k3:=(bz (b.block r B.2)).trans E3;go_simp;with_reducible rfl);refine L ?_)
      refine ai rfl (λe b=>?_);go_simp;refine(HF y R S x0 (bc x0 t).1 (bc x0 t).2).mono ?_;rintro e x1 ⟨rfl,k⟩;have PR:=ac t k;refine b _ _ PR.out λ_=>?_
      clear b k t;refine L ?_;refine aP ?_;refine jt ?_;obtain⟨t,b⟩:=J (ie x y);rw[<-b]
      cases t with
      |true=>
       have k:x=y:=by
        by_cases h:x=y
        ·exact h
        rw[nj h]at b;cases b
       have U:hH (l.take (i+1)=m.take (i+1)):=O (by
        rw[qm,qm,HT,bd,bf,k])
       clear b k
       go_wp2_with fail
       refine⟨⟨i+1,by go_num,by omega,U,PR⟩,?_⟩;simp only[jo];omega
      |false=>
       have k:P=false:=by
        rw[Q];refine nj (λh=>?_);injection h with W h2 h3 U
        have e:=bd.out;rw[U,bf]at e;injection e with e
        rw[ts e.symm]at b
        cases b
       clear b
       go_wp2_with fail
       go_ret;exact⟨rfl,f.trans (PR.mono f.size)⟩
     have hd:=ar ((i:Int)<(d:Int));have PX:=ar (i<d);have k:P=true:=by
      rw[Q];have h:=HT.out;rw[jN (by rw[<-HN];omega),jN (by rw[<-HM];omega)]at h;exact ts (by rw[h])
     go_wp2_with fail
     go_ret;exact⟨(by first|rfl|(rw[k];rfl)),f.trans (Ze.mono f.size)⟩
    have k:P=false:=by
     rw[Q];exact nj (λh=>by injection h with W h2 h3 U;exact a4 (by rw[HN,HM,U]))
    have a:((d:Int)==(M:Int))=false:=by simp;omega
    have b:((d:Int)!=(M:Int))=true:=by simp;omega
    go_enter func35,j7
    go_upto_region 1 with fail
    rw[<-p,<-V];clear p
    go_wp2_with fail
    go_ret;exact⟨rfl,f⟩
   have k:P=false:=by
    rw[Q];exact nj (λh=>by injection h with W h2 h3 U;exact hs h3)
   have a:¬xs.toList=C.toList:=λh=>hs (baI h)
   go_enter func35,j7
   go_upto_region 1 with fail
   rw[<-p,<-V];clear p
   go_wp2_with fail
   go_ret;exact⟨rfl,f⟩
  have k:P=false:=by
   rw[Q];exact nj (λh=>by injection h with W h2 h3 U;exact hm h2)
  have a:(n==u)=false:=by simpa using hm
  have b:(n !=u)=true:=by simpa using hm
  go_enter func35,j7
  go_upto_region 1 with fail
  rw[<-p,<-V];clear p
  go_wp2_with fail
  go_ret;exact⟨rfl,f⟩
 have k:P=false:=by
  rw[Q];exact nj (λh=>by injection h with W h2 h3 U;exact hk W)
 have a:(j==s)=false:=by simpa using hk
 have b:(j !=s)=true:=by simpa using hk
 go_enter func35,j7
 go_upto_region 1 with fail
 rw[<-p,<-V];clear p
 go_wp2_with fail
 go_ret;exact⟨rfl,f⟩
theorem OA:∀(f:Nat) (x:Val),wfV f x->(enc x).length<=3000000->vW x:=by
 intro f
 induction f with
 |zero=>
  rintro⟨k,n,s,l⟩ h b;rw[wfV]at h
  rcases h with⟨-,-,-,-,rfl⟩|⟨-,-,-,rfl⟩|⟨-,-,-,-,h⟩
  ·exact pT _ _ _ _ (λz a=>by cases a) G
  ·exact pT _ _ _ _ (λz a=>by cases a) G
  exact h.elim
 |succ f c=>
  rintro⟨k,n,s,l⟩ h b;rw[wfV]at h
  rcases h with⟨-,-,-,-,rfl⟩|⟨-,-,-,rfl⟩|⟨rfl,rfl,rfl,-,h⟩
  ·exact pT _ _ _ _ (λz a=>by cases a) G
  ·exact pT _ _ _ _ (λz a=>by cases a) G
  have e:(enc (.mk 3 0 emS l)).length=(aX l.length).length+(encs l).length+1:=by
   rw[enc,if_neg G,if_neg G,kl,jz]
  have j:=nS l;refine pT _ _ _ _ (λx a=>c x (h x a) ?_) Y;have:(enc x).length<=(encs l).length:=by
   obtain⟨i,d⟩:=List.getElem?_of_mem a;have g:=pW l (i+1);rw[pO d,jz]at g;omega
  omega
theorem ik.valV{w w':hZ}{c:Cmt}{v:hU}(h:ik w w' c v):ao (λg=>w.heap.size<=g/\g<w'.heap.size) w' (vL (aA c)) v:=by
 obtain⟨b,a,hk⟩:=h;rw[vL,ao];exact⟨b,ah.of_own a (λg d=>a.lt g d),hk⟩
theorem ik.sliceV{w w':hZ}{c:Cmt}{v:hU}(h:ik w w' c v):∃p k,v=T p 11 k:=by
 obtain⟨b,a,-⟩:=h;exact aL a
theorem BX(c d:Cmt)(q r:CQ)(w:hZ)(f:az (·<w.heap.size) w c q)(g:az (·<w.heap.size) w d r)(a:dy (aA c))(V:d.chg.length<=1000000)(l2:d.path.length<=1000000)(l3:d.box.length<=1000000)(l4:d.wel.length<=1000000):
 jb ih 10 #[ic (aj c q).toArray,ic (aj d r).toArray] w λe w'=>e=ja (.bool (ie (vL (aA c)) (vL (aA d))))/\ii w w w':=by
 have z:=OA 16 (vL (aA c)) a.wf (jk a.len G);have x:hH (∀(y:Val) (b v:hU) (w:hZ),ao (·<w.heap.size) w (vL (aA c)) b->ao (·<w.heap.size) w y v->
  jb ih 35 #[ic #[I N 3,I N 0,hQ ⟨#[]⟩,b],ic #[I N y.k,I N y.n,hQ y.s,v]] w λe w'=>e=ja (.bool (ie (vL (aA c)) y))/\ii w w w'):=O z
 replace x:hH (∀(b v:hU) (w:hZ),ao (·<w.heap.size) w (vL (aA c)) b->ao (·<w.heap.size) w (vL (aA d)) v->
  jb ih 35 #[ic #[I N 3,I N 0,hQ ⟨#[]⟩,b],ic #[I N 3,I N 0,hQ ⟨#[]⟩,v]] w λe w'=>e=ja (.bool (ie (vL (aA c)) (vL (aA d))))/\ii w w w'):=O (λb v w h j=>x (vL (aA d)) b v w h j)
 have M:hH (∀W:hZ,ii w w W->jb ih 34 #[ic (aj c q).toArray] W λe w'=>∃v,e=ja v/\ik W w' c v/\ii W W w'):=O (λW b=>BC c q W (f.below b) a.lens.1 a.lens.2.1 a.lens.2.2.1 a.lens.2.2.2);have P:hH (∀W:hZ,ii w w W->jb ih 34 #[ic (aj d r).toArray] W λe w'=>∃v,e=ja v/\ik W w' d v/\ii W W w'):=O (λW b=>BC d r W (g.below b) V l2 l3 l4);have k:(ih.info? 31).map (·.size)=A (aj c q).toArray.size:=by rw[jl,eA c q f.plen f.clen];exact dZ
 have o:(ih.info? 31).map (·.size)=A (aj d r).toArray.size:=by rw[jl,eA d r g.plen g.clen];exact dZ
 obtain⟨l,C⟩:=J ((aj c q).toArray);obtain⟨m,E⟩:=J ((aj d r).toArray);obtain⟨Tl,F⟩:=J (ie (vL (aA c)) (vL (aA d)));rw[<-C]at M k⊢;rw[<-E]at P o⊢;rw[<-F]at x⊢;have W:=O k;have aa:=O o;have s:=af w (hK l 31);have b:=je w (hK l 31);have t:=af (w.alloc (hK l 31)) (hK m 31);have h:=je (w.alloc (hK l 31)) (hK m 31);rw[jm]at h;replace b:=ak b t;obtain⟨B,u⟩:=J w.heap.size;have y:=s.trans (t.mono s.size);obtain⟨n,j⟩:=J ((w.alloc (hK l 31)).alloc (hK m 31));rw[<-j,<-u]at b h;rw[<-j]at y;have H:=O b;have K:=O h;have p:=O y;have HA:=O u;have Q:=O j;clear s t b h y u j z f g a k o C E F
 go_enter func10,ntmps10
 go_upto_region 1 with fail
 rw[<-Q,<-HA];clear Q
 go_wp2_with (refine jy rfl 31 _ rfl B rfl 31 l (0,0) _ H.out jv rfl W ?_)
 refine(M n p).mono ?_;rintro e C ⟨vc,rfl,b,a⟩;have f:=O b.valV;obtain⟨j,k,rfl⟩:=b.sliceV;have h:=Z K a;have t:=O (Below.trans (jM _ _) a);clear b a H K
 go_wp2_with fail
 refine(lP j 11 k C).mono ?_;rintro e o ⟨rfl,a⟩;have Q:=O (ao.keep (λg b=>a.block g b.2) _ _ f.out);have R:=Z h a;have s:=ac t a;have E:=O a.size;clear a f h t;have h:=af o (hK #[I N 3,I N 0,hQ ⟨#[]⟩,T j 11 k] 43);have y:=je o (hK #[I N 3,I N 0,hQ ⟨#[]⟩,T j 11 k] 43);obtain⟨X,F⟩:=J o.heap.size;rw[<-F]at y;obtain⟨f,H⟩:=J (o.alloc (hK #[I N 3,I N 0,hQ ⟨#[]⟩,T j 11 k] 43));rw[<-H]at y h;have S:=O F;have U:=O H;have z:ii o o f.drew:=h.trans ((aQ f).mono h.size);have t:hH (f.drew.heap[X]?=A (hK #[I N 3,I N 0,hQ ⟨#[]⟩,T j 11 k] 43 (0,0))/\f.drew.heap[B+1]?=A (hK m 31 (0,0))):=O ⟨y,ak R z⟩;have u:hH (ii n n f.drew):=O ((s.trans (h.mono s.size)).trans ((aQ f).mono (s.trans (h.mono s.size)).size));have K:hH (ao (λg=>n.heap.size<=g/\g<f.drew.heap.size) f.drew (vL (aA c)) (T j 11 k)):=O (ao.mono (D:=λg=>n.heap.size<=g/\g<C.heap.size) (λg b=>⟨b.1,jg b.2 (jk E z.size)⟩) _ _ (ao.keep (λg (b:n.heap.size<=g/\g<C.heap.size)=>z.block g (jg b.2 E)) _ _ Q.out));clear z h y F H Q R s E
 go_upto_region 2 with fail
 rw[<-U,<-S];clear U S;refine ju ?_;refine aY (λs=>s.heap[X]?=A (hK #[I N 3,I N 0,hQ ⟨#[]⟩,T j 11 k] 43 (0,0))/\s.heap[B+1]?=A (hK m 31 (0,0))) (.take 0 (.take 1 (.one 2 (.one 3 (.one 4 (.take 5 .done)))))) ae ae ae G (λ_ _ _ _ h=>h) t ?_;generalize f.drew=U at t K u⊢
 (refine ay (v:=?_) rfl ag (λs h=>?_) ?_;rotate_left;(have y:=cell_of (i:=0) h.1 rfl;have z:=cell_of (i:=1) h.1 rfl;have E:=cell_of (i:=2) h.1 rfl;have F:=cell_of (i:=3) h.1 rfl;go_simp;with_reducible rfl);refine L ?_)
 (refine ay (v:=ic m) rfl ag (λs h=>bJ jv rfl aa rfl rfl h.2) ?_;refine L ?_)
 refine ai rfl (λz h=>?_);go_simp;refine(P U (p.trans (u.mono p.size))).mono ?_;rintro e x1 ⟨vd,rfl,s,a⟩;have E:=u.trans (a.mono u.size);have F:=O s.valV;have H:=O (ao.keep (λg b=>a.block g b.2) _ _ K.out);obtain⟨pd,cd,rfl⟩:=s.sliceV;have Q:=O E;have R:=O a.size;refine h _ _ ⟨ak t.1 a,ak t.2 a⟩ λS=>?_
 have y:=O S;clear h a E s t K u S;refine L ?_;refine ai rfl (λz h=>?_);go_simp;refine(lP pd 11 cd x1).mono ?_;rintro e x2 ⟨rfl,a⟩;have t:=ac Q a;have u:=O (ao.keep (λg b=>a.block g (jg b.2 R)) _ _ H.out);have E:=O (ao.keep (λg b=>a.block g b.2) _ _ F.out);have K:=O a.size;refine h _ _ ⟨ak y.1 a,ak y.2 a⟩ λS=>?_
 have s:=O S;clear h a y S Q H F;refine L ?_;refine ai rfl (λz h=>?_);go_simp;refine(x _ _ x2 (ao.mono (λg b=>jg b.2 (jk R K)) _ _ u.out) (ao.mono (λg b=>jg b.2 K) _ _ E.out)).mono ?_;rintro e g ⟨rfl,a⟩;have b:=ac t a;refine h _ _ ⟨ak s.1 a,ak s.2 a⟩ λ_=>?_
 clear h a s t u E;refine L ?_;refine aP ?_;refine jt ?_
 go_wp2_with fail
 go_ret;exact⟨rfl,p.trans (b.mono p.size)⟩
def vE(f:Nat):Prop:=∀(R:Nat) (l:LBy) (w:hZ) (a:Nat),a+f=16->RdC w R l->l.length<=1000000->
 jb ih 31 #[ji (A ⟨R,0,hF⟩),I N (a:Int)] w (BV R w (bV f l))
theorem zO(f:Nat):bV f []=hF:=by cases f<;>rfl
theorem Am(f:Nat)(l:LBy):bV f (1#8::l)=(bG 9 0 l).map λr=>(.mk 1 (fI r.1) emS [],r.2):=by cases f<;>rfl
theorem Et(f:Nat)(l:LBy):bV f (2#8::l)=(dT l).map λr=>(.mk 2 0 (ofB (r.2.take r.1)) [],r.2.drop r.1):=by cases f<;>rfl
theorem As(l:LBy):bV 0 (3#8::l)=hF:=rfl
theorem yH(f:Nat)(l:LBy):bV (f+1) (3#8::l)=(dT l).bind λr=>(dE (bV f) r.1 r.2).map λq=>(.mk 3 0 emS q.1,q.2):=rfl
theorem Aa(f:Nat)(b:BitVec 8)(l:LBy)(a:b≠1#8)(c:b≠2#8)(d:b≠3#8):bV f (b::l)=hF:=by
 cases f<;>simp only[bV,if_neg a,if_neg c,if_neg d]
theorem eL:(ih.info? 43).map (·.size)=A 4:=by kernel_rfl
theorem RdC.keepR{w w':hZ}{R:Nat}{l:LBy}(h:RdC w R l)(hk:∀k,k<=R->w'.heap[k]?=w.heap[k]?):RdC w' R l:=by
 obtain⟨p,c,a,b⟩:=h;exact⟨p,c,(hk R (jc _)).trans a,b.keep (λg (d:g<R)=>hk g Y)⟩
theorem sN{R a n:Nat}{w w':hZ}(h:kz a w w')(b:n<=a):aD R n w w':=⟨h.os,h.tape,h.output,jA h.size.symm,λk hk _=>h.block k Y⟩
theorem sX{l:LBy}{r:Nat×LBy}(h:dT l=A r):r.2.length<=l.length:=by
 unfold dT at h
 cases hh:bG 9 0 l with
 |none=>rw[hh]at h;cases h
 |some q=>
  rw[hh,jp]at h
  split at h
  ·injection h with h;rw[<-h];exact rq _ _ _ _ hh
  cases h
theorem yS{g:LBy->Option (Val×LBy)}(a:∀l r,g l=A r->r.2.length<=l.length):∀(n:Nat) (l:LBy) (q:List Val×LBy),dE g n l=A q->q.2.length<=l.length
 |0,l,q,h=>by
  rw[dE]at h;injection h with h
  rw[<-h];exact jc _
 |n+1,l,q,h=>by
  rw[dE]at h
  cases h1:g l with
  |none=>rw[h1]at h;cases h
  |some r=>
   rw[h1,jp]at h
   cases h2:dE g n r.2 with
   |none=>rw[h2]at h;cases h
   |some b=>
    rw[h2]at h;injection h with h
    rw[<-h];exact jk (yS a n r.2 b h2) (a l r h1)
theorem wC:∀(f:Nat) (l:LBy) (r:Val×LBy),bV f l=A r->r.2.length<=l.length
 |f,[],r,h=>by rw[zO]at h;cases h
 |f,b::l,r,h=>by
  by_cases d:b=1#8
  ·subst d
   rw[Am]at h
   cases a:bG 9 0 l with
   |none=>rw[a]at h;cases h
   |some q=>
    rw[a]at h;injection h with h
    rw[<-h];have:=rq _ _ _ _ a;simp;omega
  by_cases a:b=2#8
  ·subst a
   rw[Et]at h
   cases c:dT l with
   |none=>rw[c]at h;cases h
   |some q=>
    rw[c]at h;injection h with h
    rw[<-h];have:=sX c;simp;omega
  by_cases c:b=3#8
  ·subst c
   cases f with
   |zero=>rw[As]at h;cases h
   |succ f=>
    rw[yH]at h
    cases h4:dT l with
    |none=>rw[h4]at h;cases h
    |some q=>
     rw[h4,jp]at h
     cases h5:dE (bV f) q.1 q.2 with
     |none=>rw[h5]at h;cases h
     |some e=>
      rw[h5]at h;injection h with h
      rw[<-h];have:=sX h4;have:=yS (wC f) _ _ _ h5;simp;omega
  rw[Aa f b l d a c]at h;cases h
theorem Ci(f:Nat)(e:∀a,f=a+1->vE a):vE f:=by
 intro R l w X bv h hl;obtain⟨ov,a⟩:=J (bV f l);rw[<-a];have P:=O a;clear a;obtain⟨m,a⟩:=J w.heap.size;obtain⟨W1,b⟩:=J (w.alloc (hK #[I N 0,I N 0,hQ ⟨#[]⟩,T hF 0 0] 43));have c:=je w (hK #[I N 0,I N 0,hQ ⟨#[]⟩,T hF 0 0] 43);have s:=af w (hK #[I N 0,I N 0,hQ ⟨#[]⟩,T hF 0 0] 43);have g:=h.but (w':=W1) (λk hk=>by rw[b];exact s.block k hk);have bw:R<m:=by rw[a];exact h.lt
 rw[<-b]at c s;rw[<-a]at c;have n:=O c;have d:hH (aD R w.heap.size w W1):=O (aD.of_below s);have o:=O g;have i:=O b;have HA:=O a;have bm:=O e;clear b c s g h e a
 go_enter func31,ntmps31
 go_upto_region 1 with fail
 rw[<-i,<-HA];clear i
 rcases l with _|⟨b,l⟩
 ·have Rw:hH (ov=hF):=O (by rw[P,zO])
  go_wp2_with fail
  refine(B9 R 1 [] W1 o av Y).mono ?_;rintro e w' ⟨rfl,rfl⟩;exact⟨rfl,d,by rw[Rw]⟩
 have al:l.length<=1000000:=by simp at hl;omega
 go_wp2_with fail
 refine(uG R 1 (b::l) W1 o av hl).mono ?_;rintro e w2 ⟨p,rfl,hs,t,s⟩;obtain⟨-,p',c',e,-,-,hc⟩:=hs;injection e with e1 z B
 subst e1;obtain⟨g,o1,rfl,-,hc⟩:=hc G;have a:w2.cell? ⟨g,o1,hF⟩=A (I .u8 (b.toNat:Int)):=hc 0 _ rfl;obtain⟨k,hk⟩:=J b.toNat;have E:k<256:=by rw[hk];exact b.isLt
 rw[<-hk]at a;replace t:RdC w2 R l:=t;have c:=(s.block m (jf.1 n).1 Y).trans n;obtain⟨⟨H,c0⟩,K,q,F⟩:=bP (i:=0) (I N (k:Int)) c G;have HK:=O hk;have PC:=O t;have r:=O (d.trans s d.size);have v:(w2.setCell ⟨m,0,hF⟩ (I N (k:Int))).heap[m]?=A (hK #[I N (k:Int),I N 0,hQ ⟨#[]⟩,T hF 0 0] 43 (0,0)):=q;have x:RdC (w2.setCell ⟨m,0,hF⟩ (I N (k:Int))) R l:=t.keepR (λj hj=>F.block j Y);have y:aD R w.heap.size w (w2.setCell ⟨m,0,hF⟩ (I N (k:Int))):=r.trans (sN F (by rw[HA];exact jc _)) (jc _);have C:=O v;have PL:=O x;have u:=O y;clear c q v F x y t s hc hk z B n d o r
 go_upto_region 2 with fail
 obtain⟨W3,c⟩:=J (w2.setCell ⟨m,0,hF⟩ (I N (k:Int)));rw[<-c]at C PL u⊢;clear c c0 K a H;obtain⟨H,a⟩:∃H:Int,H=(k:Int):=⟨_,rfl⟩;rw[<-a]at C⊢;have aa:hH (∀n:Nat,n<256->H=(n:Int)->b=oi 8 n):=O (λn c h=>ob (by have hk:=HK.out;rw[qn];omega));have Wp:hH (∀n:Nat,n<256->b=oi 8 n->H=(n:Int)):=O (λn c h=>by have hk:=HK.out;rw[a,hk,h,qn];omega);have bA:0<=H:=Y;clear a E;have c0:=cell_of (i:=0) C rfl
 by_cases h1:H=1
 ·have au:=aa 1 G h1
  subst h1;obtain rfl:b=1#8:=au;have E:hH (ov=(bG 9 0 l).map λr=>(.mk 1 (fI r.1) emS [],r.2)):=O (by rw[P,Am]);have c:=O (B8 R l W3 PL al);obtain⟨o,a⟩:=J (bG 9 0 l);have Q:=O (fun(r:Nat×LBy) (h:o=A r)=>zu (l:=l) (r:=r) (by rw[<-a];exact h));rw[<-a]at c E;clear a aa Wp P
  go_wp2_with fail
  refine c.mono ?_;rintro e M ⟨s,K⟩
  rcases o with _|q
  ·obtain rfl:e=.panicked gK:=K
   exact⟨rfl,u.trans s u.size,by rw[E];rfl⟩
  obtain⟨a1,r⟩:=q;obtain⟨rfl,t⟩:=K;have U:a1<18446744073709551616:=Q _ rfl;have S:=O t;have d:=O ((s.block m (jf.1 C).1 Y).trans C);have x:=O (u.trans s u.size);clear t s C PL u c Q c0
  go_wp2_with fail
  refine(Lt a1 U M).mono ?_;rintro e w5 ⟨rfl,rfl⟩;obtain⟨v,y⟩:=J (fI a1);rw[<-y];have a2:=O y;clear y;obtain⟨⟨v1,c1⟩,f1,V,F⟩:=bP (i:=1) (I N v) d av;have B:hH ((M.setCell ⟨m,1,hF⟩ (I N v)).heap[m]?=A (hK #[I N 1,I N v,hQ ⟨#[]⟩,T hF 0 0] 43 (0,0))):=O V;have W:=O (S.keepR (λj hj=>F.block j Y));have ad:=O (x.trans (sN F (by rw[HA];exact jc _)) (jc _));have HE:hH (ov=A (.mk 1 v emS [],r)):=O (by rw[E,a2];rfl);clear V F S d x
  go_upto_region 14 with fail
  generalize M.setCell ⟨m,1,hF⟩ (I N v)=z at B W ad⊢;clear c1 f1
  go_wp2_with (first|(refine jy rfl 43 _ rfl m rfl 43 #[I N 1,I N v,hQ ⟨#[]⟩,T hF 0 0] (0,0) _ B.out jH rfl eL ?_)|(refine js rfl λ_ y=>jj 43 _ _ rfl m #[I N 1,I N v,hQ ⟨#[]⟩,T hF 0 0] rfl rfl 43 _ B.out eL rfl (by simp[jn]) (y _ _ ?_)))
  rw[dq B];exact jE (jW rfl _ _ m 43 #[I N 1,I N v,hQ ⟨#[]⟩,T hF 0 0] (0,0) _ rfl B jH rfl eL) rfl ⟨ad,by rw[HE];exact⟨⟨_,rfl,(by rw[ao];exact⟨[],⟨rfl,hF,0,rfl,jc _,λ_=>rfl,λh=>absurd h G⟩,by rw[ax]⟩)⟩,W⟩⟩
 by_cases h2:H=2
 ·have au:=aa 2 G h2
  subst h2;obtain rfl:b=2#8:=au;have E:hH (ov=(dT l).map λr=>(.mk 2 0 (ofB (r.2.take r.1)) [],r.2.drop r.1)):=O (by rw[P,Et]);have c:=O (Ei R l W3 PL al);obtain⟨o,a⟩:=J (dT l);have Q:=O (fun(r:Nat×LBy) (h:o=A r)=>sX (l:=l) (r:=r) (by rw[<-a];exact h));rw[<-a]at c E;clear a aa Wp h1 P
  go_wp2_with fail
  refine c.mono ?_;rintro e M ⟨s,K⟩
  rcases o with _|q
  ·obtain rfl:e=.panicked gK:=K
   exact⟨rfl,u.trans s u.size,by rw[E];rfl⟩
  obtain⟨n,r⟩:=q;obtain⟨rfl,t,a2⟩:=K;have P2:r.length<=1000000:=jk (Q _ rfl) al;have S:=O t;have d:=O ((s.block m (jf.1 C).1 Y).trans C);have x:=O (u.trans s u.size);clear t s C PL u c Q c0
  go_wp2_with fail
  refine(uG R n r M S a2 P2).mono ?_;rintro e w5 ⟨p,rfl,hs,t,s⟩;have kc:=gI (ah.bytes (D:=(·<R)) (w:=w5) (v:=T p n n) (l:=r.take n) (by rw[jI,Nat.min_eq_left a2];exact hs));rw[pH]at kc;obtain⟨U,RD⟩:=J (ofB (r.take n));rw[<-RD]at kc;have a3:=O RD;have Sz:=O t;have UN:=O ((s.block m (jf.1 d).1 Y).trans d);have Pk:=O (x.trans s x.size);clear RD t s hs d S x;obtain⟨⟨v1,c1⟩,f1,V,F⟩:=bP (i:=2) (hQ U) UN av;have B:hH ((w5.setCell ⟨m,2,hF⟩ (hQ U)).heap[m]?=A (hK #[I N 2,I N 0,hQ U,T hF 0 0] 43 (0,0))):=O V;have W:=O (Sz.keepR (λj hj=>F.block j Y));have ad:=O (Pk.trans (sN F (by rw[HA];exact jc _)) (jc _));have HE:hH (ov=A (.mk 2 0 U [],r.drop n)):=O (by rw[E,a3];rfl);clear V F Sz UN Pk
  go_upto_region 14 with fail
  generalize w5.setCell ⟨m,2,hF⟩ (hQ U)=z at B W ad⊢;clear c1 f1 kc
  go_wp2_with (first|(refine jy rfl 43 _ rfl m rfl 43 #[I N 2,I N 0,hQ U,T hF 0 0] (0,0) _ B.out jH rfl eL ?_)|(refine js rfl λ_ y=>jj 43 _ _ rfl m #[I N 2,I N 0,hQ U,T hF 0 0] rfl rfl 43 _ B.out eL rfl (by simp[jn]) (y _ _ ?_)))
  rw[dq B];exact jE (jW rfl _ _ m 43 #[I N 2,I N 0,hQ U,T hF 0 0] (0,0) _ rfl B jH rfl eL) rfl ⟨ad,by rw[HE];exact⟨⟨_,rfl,(by rw[ao];exact⟨[],⟨rfl,hF,0,rfl,jc _,λ_=>rfl,λh=>absurd h G⟩,by rw[ax]⟩)⟩,W⟩⟩
 by_cases h3:H=3
 ·have au:=aa 3 G h3
  subst h3;obtain rfl:b=3#8:=au;have j:=O (oF (ji (A ⟨R,0,hF⟩)) W3);have a3:=O (nI (ji (A ⟨R,0,hF⟩)) W3);clear aa Wp h1 h2
  rcases f with _|f
  ·have Rw:hH (ov=hF):=O (by rw[P,As])
   have hd:=ar ((X:Int)<16);have PX:=ar (X<16)
   go_wp2_with fail
   refine a3.mono ?_;rintro e M ⟨rfl,rfl⟩;exact⟨rfl,u,by rw[Rw]⟩
  have hd:=ap ((X:Int)<16);have PX:=ap (X<16);have E:hH (ov=(dT l).bind λr=>(dE (bV f) r.1 r.2).map λq=>(.mk 3 0 emS q.1,q.2)):=O (by rw[P,yH]);have c:=O (Ei R l W3 PL al);obtain⟨o,a⟩:=J (dT l);have Q:=O (fun(r:Nat×LBy) (h:o=A r)=>sX (l:=l) (r:=r) (by rw[<-a];exact h));rw[<-a]at c E;clear a P
  go_wp2_with fail
  refine j.mono ?_;rintro e M ⟨rfl,rfl⟩
  go_wp2_with fail
  refine c.mono ?_;rintro e M ⟨s,K⟩
  rcases o with _|q
  ·obtain rfl:e=.panicked gK:=K
   exact⟨rfl,u.trans s u.size,by rw[E];rfl⟩
  obtain⟨n,r⟩:=q;obtain⟨rfl,t,a2⟩:=K;have P2:r.length<=1000000:=jk (Q _ rfl) al;have S:=O t;have d:=O ((s.block m (jf.1 C).1 Y).trans C);have x:=O (u.trans s u.size);clear t s C PL u c Q c0;obtain⟨o,a⟩:=J (dE (bV f) n r);have PZ:hH (ov=o.map λq=>(.mk 3 0 emS q.1,q.2)):=O (by rw[E,a];rfl);have c:hH (o=(dE (bV f) (n-0) r).map λq=>([]++q.1,q.2)):=O (by rw[a];simp);have Q:hH (Vld (m+1) m M [] bE []):=O (Vld.start d (jf.1 d).1);have bn:hH (n<=1000000):=O (jk a2 P2);clear a E d j a3
  go_wp2_with fail
  go_loopw [37] (λv wr=>∃(i:Nat) (xs:List Val) (vr:hU) (us:List hU) (z:LBy),v=I N i/\i<=n/\hH (xs.length=i)/\hH (o=(dE (bV f) (n-i) z).map λq=>(xs++q.1,q.2))/\hH (Vld (m+1) m wr xs vr us)/\hH (RdC wr R z)/\hH (aD R w.heap.size w wr)/\hH (z.length<=1000000)) (λv _=>n-(jo v).toNat)
  case atStart=>exact⟨0,[],bE,[],r,rfl,jC _,O rfl,c,Q,S,x,O P2⟩
  clear c Q S x;obtain⟨i,xs,vr,us,z,rfl,hi,a5,HO,j,ba,QX,bg⟩:=hrel;have bB:=bn.out
  by_cases bC:i<n
  ·have bo:=ap ((i:Int)<(n:Int))
   have bq:=ap (i<n);have bI:(i:Int)<(n:Int):=Y;obtain⟨Q,S,a4⟩:=aL j.own;rw[a5]at a4;subst a4;have x:wr.cell? ⟨m,3,hF⟩=A (T Q i S):=cell_of j.box rfl;obtain⟨o2,a⟩:=J (bV f z);have bb:=O a;have T6:=O (fun(q:Val×LBy) (h:o2=A q)=>wC f z q (by rw[<-a];exact h));have RN:hH (∀W,RdC W R z->jb ih 31 #[ji (A ⟨R,0,hF⟩),I N (pa.wrap ((X:Int)+1))] W (BV R W o2)):=O (λW c=>by
    have h:=bm f rfl R z W (X+1) Y c bg;have e1:pa.wrap ((X:Int)+1)=((X+1:Nat):Int):=by rw[qj];omega
    rw[e1];rw[<-a]at h;exact h)
   clear a
   go_upto_region 12 with fail
   refine uZ (λa=>a.cell? ⟨m,3,hF⟩=A (T Q i S)) 9 [(0,true),(1,true),(2,true),(3,true),(4,true),(5,false),(6,false),(7,false),(8,true),(9,false)] ae ae ae G (λc a d v w h=>by cases d<;>exact h) x ?_;obtain⟨wa,d⟩:=J wr.drew;have a:=aQ wr;rw[<-d]at a⊢;have V:=O (j.later Y a.size (λk _ hk=>a.block k hk));have bh:=O (ba.but (λk hk=>a.block k hk));have c:=O (QX.trans (aD.of_below a) QX.size);clear a d x j ba QX;iterate 5 refine zc ?_
   refine aS rfl (λK' y=>?_);go_simp;refine(RN wa bh).mono ?_;rintro e W ⟨s,K⟩
   rcases o2 with _|q
   ·obtain rfl:e=.panicked gK:=K
    have Rw:hH (ov=hF):=O (by
     have a:n-i=(n-(i+1))+1:=Y;rw[PZ,HO,a,dE,<-bb]
     rfl)
    exact⟨rfl,c.trans s c.size,by rw[Rw]⟩
   obtain⟨x,r2⟩:=q;obtain⟨⟨a1,rfl,hv⟩,t⟩:=K;obtain⟨d,v,rfl⟩:=hv.form;obtain⟨xk,TZ⟩:=J x.k;obtain⟨xn,TT⟩:=J x.n;obtain⟨ad,QL⟩:=J x.s;obtain⟨U,bc⟩:=J x.l.length;dsimp only;rw[<-TZ,<-TT,<-QL,<-bc];rw[<-bc]at hv;have br:hH (ee x (T d U v)=[I N xk,I N xn,hQ ad,T d U v]):=O (by unfold ee;rw[TZ,TT,QL]);have bK:m≠R:=Y;have bs:hH (o=(dE (bV f) (n-(i+1)) r2).map λq=>((xs++[x])++q.1,q.2)):=O (by
    have a:n-i=(n-(i+1))+1:=Y;rw[HO,a,dE,<-bb,jp,Option.map_map]
    congr 1
    funext q
    simp)
   have bu:hH (r2.length<=1000000):=O (jk (T6 _ rfl) bg);have bd:=O (V.later Y s.size (λk h1 h2=>s.block k h2 Y));have bk:hH (ao (λg=>m+1<=g/\g<W.heap.size/\(jD Q i S).ownBlock≠A g) W x (T d U v)):=O (ao.mono (λg a=>⟨by have:=V.sz;omega,a.2,bU V.own (.inl a.1)⟩) _ _ hv);have bl:=O t;have bf:=O (c.trans s c.size);clear s hv t TZ TT QL bc V bh c T6 RN bb;refine y _ _ (cell_of bd.box rfl) λV=>?_
   clear y;refine L ?_;refine aS rfl (λK' y=>?_);go_simp;have c:=af W (hK #[I N xk,I N xn,hQ ad,T d U v] 43);have Q4:=ei W [I N xk,I N xn,hQ ad,T d U v] 43 (0,0) 4 1 1 rfl (jc _);refine y _ _ (cell_below V c) λSy=>?_
   clear y V;replace Q4:bW (W.alloc (hK #[I N xk,I N xn,hQ ad,T d U v] 43)) (T (A ⟨W,0,hF⟩) 1 1) 4 1 [I N xk,I N xn,hQ ad,T d U v]:=Q4;generalize W.alloc (hK #[I N xk,I N xn,hQ ad,T d U v] 43)=wc at c Q4 Sy⊢;have PT:=O Q4;have V:=O (bd.later Y c.size (λk _ hk=>c.block k hk));have bc:hH (ao (λg=>m+1<=g/\g<wc.heap.size/\(jD Q i S).ownBlock≠A g) wc x (T d U v)):=O (ao.mono (λg a=>⟨a.1,jg a.2.1 c.size,a.2.2⟩) _ _ (ao.keep (λg a=>c.block g a.2.1) _ _ bk.out));have bh:=O (bl.but (λk hk=>c.block k hk));have bb:=O (bf.trans (aD.of_below c) bf.size);clear c Q4 bd bk bl bf;refine L ?_;refine aS rfl (λK' y=>?_);rw[if_pos ag];refine ig _ _ rfl (m+1) (T Q i S) _ _ rfl V.own _ 1 _ rfl PT (by simp[jn]) (by rw[a5];omega) V.sz λv' wd c=>?_
   have Pj:=c.own;obtain⟨pn,cn,rfl⟩:=aL Pj;have ZR:=dW V.box c.grown (bU V.own (.inr Y));refine y _ _ (cell_of ZR rfl) λSx=>?_
   clear y Sy Sx Pj;refine L ?_;refine zc ?_;refine gq rfl (λK' y=>?_);obtain⟨⟨vo,c3⟩,f3,Yv,UJ⟩:=bP (i:=3) (T pn (xs.length+1) cn) ZR av;go_simp;refine y _ _ ?_;have bd:=O (V.push Y (x:=x) bc.out (by rw[br];exact c) Yv UJ);have bf:=O ((bh.keepR (w':=wd) (λk hk=>c.grown.block k (a8 V.sz) (Ne.symm (bU V.own (.inr Y))))).keepR (λk hk=>UJ.block k Y));have bk:hH (aD R w.heap.size w (wd.setCell ⟨m,3,hF⟩ (T pn (xs.length+1) cn))):=O ((bb.trans (⟨c.grown.os,c.grown.tape,c.grown.output,c.grown.size,λk hk _=>c.grown.block k (a8 bb.size) (Ne.symm (bU V.own (.inr (aw HA))))⟩:aD R w.heap.size wc wd) (jc _)).trans (sN UJ (by rw[HA];exact jc _)) (jc _));clear y c3 f3 Yv UJ c V bc bh bb PT ZR
   go_wp2_with fail
   go_roundw
   case rel=>exact⟨i+1,xs++[x],_,_,r2,by go_num,by omega,O (by rw[jz,a5];rfl),bs,bd,bf,bk,bu⟩
   case measure=>simp only[jo];omega
  obtain rfl:n=i:=Y;have bo:decide ((n:Int)<(n:Int))=false:=by simp
  have bq:decide (n<n)=false:=by simp
  have HE:hH (ov=A (.mk 3 0 emS xs,z)):=O (by rw[PZ,HO,Nat.sub_self];simp[dE]);have B:=O j.box;have c:hH (ao (λg=>w.heap.size<=g/\g<wr.heap.size) wr (.mk 3 0 emS xs) vr):=O (by
   rw[ao];exact⟨us,ah.of_own j.own (λg a=>⟨by have:=(j.own.lt g a).1;have:=HA.out;omega,(j.own.lt g a).2⟩),ax.mono (λg a=>⟨by have:=HA.out;omega,a.2.1⟩) _ _ j.kids⟩)
  obtain⟨Q,S,a4⟩:=aL j.own;subst a4;clear j
  go_upto_region 14 with fail
  go_wp2_with (first|(refine jy rfl 43 _ rfl m rfl 43 #[I N 3,I N 0,hQ ⟨#[]⟩,T Q xs.length S] (0,0) _ B.out jH rfl eL ?_)|(refine js rfl λ_ y=>jj 43 _ _ rfl m #[I N 3,I N 0,hQ ⟨#[]⟩,T Q xs.length S] rfl rfl 43 _ B.out eL rfl (by simp[jn]) (y _ _ ?_)))
  rw[dq B];exact jE (jW rfl _ _ m 43 #[I N 3,I N 0,hQ ⟨#[]⟩,T Q xs.length S] (0,0) _ rfl B jH rfl eL) rfl ⟨QX,by rw[HE];exact⟨⟨_,rfl,c⟩,ba⟩⟩
 have a:b≠1#8/\b≠2#8/\b≠3#8:=⟨λh=>h1 (Wp 1 G h),λh=>h2 (Wp 2 G h),λh=>h3 (Wp 3 G h)⟩;have Rw:hH (ov=hF):=O (by rw[P,Aa f b l a.1 a.2.1 a.2.2]);have c:(H==1)=false:=by simpa using h1
 have d:(H==2)=false:=by simpa using h2
 have j:(H==3)=false:=by simpa using h3
 have a3:=O (nI (ji (A ⟨R,0,hF⟩)) W3);clear aa Wp h1 h2 h3 a
 go_wp2_with fail
 refine a3.mono ?_;rintro e M ⟨rfl,rfl⟩;exact⟨rfl,u,by rw[Rw]⟩
theorem Iy:∀f,vE f:=by
 intro f
 induction f with
 |zero=>exact Ci 0 (λa h=>by omega)
 |succ f b=>exact Ci (f+1) (λa h=>by cases h;exact b)
structure rK(V E:Nat)(w w':hZ):Prop where
 os:w'.os=w.os
 tape:w'.tape=w.tape
 output:w'.output=w.output
 size:w'.heap.size=w.heap.size
 block:∀k,k≠V->k≠E->w'.heap[k]?=w.heap[k]?
def zeroV:Array hU:=#[I N 0,I N 0,hQ ⟨#[]⟩,T hF 0 0]
theorem Kx{a:Act}{o:jJ}(b:o.op=.build 43 #[])(W:hZ):(jK a.eval o).run ih W=.ok (.value (ic zeroV)) W:=by
 have h:∀W,(Instr.build 43 #[]).run ih W=.ok (ic zeroV) W:=λW=>by
  unfold Instr.build;go_simp
  rfl
 simp only[jK,b,o4,lo,Sem.run_bind,h,Result.andThen_ok,Sem.run_pure]
theorem Ka:∀W,(Instr.typeAssert (.iface 35 (I N 10)) 20 35 false).run ih W=.ok (I N 10) W:=λ_=>by kernel_rfl
theorem Jl{a:Act}{o:jJ}{x:jY}(b:o.op=.typeAssert x 20 35 false)(c:a.eval x=.iface 35 (I N 10))(W:hZ):(jK a.eval o).run ih W=.ok (.value (I N 10)) W:=by
 simp only[jK,b,c,Sem.run_bind,Ka,Result.andThen_ok,Sem.run_pure]
theorem Ov(V E:Nat)(w:hZ):CallsD ih 30 #[ji (A ⟨V,0,hF⟩),ji (A ⟨E,0,hF⟩)] .returning w λe b w'=>e=ja (jB #[])/\b=.returning/\w'=w:=by
 refine callsD_of_wpS func30 rfl λc cs a=>?_
 apply wpS_seq
 apply mz
 simp[wpOpsS,go_sem,recoverD,a,ntmps30,Exit.thenS]
 apply wpS_seq
 apply mz
 simp[wpOpsS,go_sem,recoverD,a,ntmps30,Exit.thenS];refine wpS_cond (t:=false) (by simp[Act.eval,qo]) ?_;simp only[Bool.false_eq_true,if_false];refine wpS_of_wp (wp_skip ?_)
 cases c
 simp_all [bodyPostS,results,results30]
theorem Dd(V E:Nat)(l:V≠E)(j:Array hU)(r:j.size=4)(x:hU)(m:List PanicEntry)(w:hZ)(d:w.heap[V]?=A (hK j 43 (0,0)))(f:w.heap[E]?=A (hK #[x] 35 (0,0))):
 CallsD ih 30 #[ji (A ⟨V,0,hF⟩),ji (A ⟨E,0,hF⟩)] (.panicking ({v:=.iface 35 (I N 10),recovered:=false}::m)) w λe s w'=>
  e=ja (jB #[])/\s=.panicking ({v:=.iface 35 (I N 10),recovered:=true}::m)/\w'.heap[V]?=A (hK zeroV 43 (0,0))/\w'.heap[E]?=A (hK #[I N 10] 35 (0,0))/\rK V E w w':=by
 refine callsD_of_wpS func30 rfl λu cs n=>?_
 apply wpS_seq
 apply mz
 simp[wpOpsS,go_sem,recoverD,n,ntmps30,Exit.thenS]
 apply wpS_seq
 apply mz
 simp[wpOpsS,go_sem,recoverD,n,ntmps30,Exit.thenS];refine wpS_cond (t:=true) (by simp[Act.eval,qo]) ?_;simp only[if_true];refine wpS_of_wp (show Code.wp _ _ _ {tmps:=#[ji (A ⟨V,0,hF⟩),ji (A ⟨E,0,hF⟩),.iface 35 (I N 10),.iface 35 (I N 10),.iface 35 (I N 10),.bool true,jQ,jQ,jQ],defers:=[]} _ from ?_);refine ju ?_;refine aY (λ_=>True) (.take 0 (.take 1 (.take 2 (.one 3 (.one 4 .done))))) ae ae ae G (λ_ _ _ _ h=>h) trivial ?_;obtain⟨a,c⟩:=J w.drew;have h:a.heap[V]?=A (hK j 43 (0,0)):=by rw[c];exact d
 have o:a.heap[E]?=A (hK #[x] 35 (0,0)):=by rw[c];exact f
 have b:rK V E w a:=by rw[c];exact⟨rfl,rfl,rfl,rfl,λ_ _ _=>rfl⟩
 rw[<-c];clear c d f
 (refine ay (v:=ic zeroV) rfl ag (λc d=>Kx rfl c) ?_;refine L ?_)
 refine aP ?_
 (refine ay (v:=I N 10) rfl ag (λc d=>Jl rfl rfl c) ?_;refine L ?_)
 refine ai rfl (λy d=>?_);rw[if_pos ag];refine jj 43 _ _ rfl V zeroV rfl rfl 43 _ h eL r (by simp[zeroV,jn]) ?_;refine d _ _ trivial λ_=>?_
 clear d;have p:(a.setRow V zeroV).heap[V]?=A (hK zeroV 43 (0,0)):=jL _ _ _ _ _ _ h;have q:=(jh a V E zeroV (Ne.symm l)).trans o;have c:rK V E w (a.setRow V zeroV):=⟨b.os,b.tape,b.output,by rw[show(a.setRow V zeroV).heap.size=a.heap.size by simp[mb]];exact b.size,λk f g=>(jh a V k zeroV f).trans (b.block k f g)⟩;generalize a.setRow V zeroV=z at p q c⊢;clear h o b;refine L ?_;refine ai rfl (λy d=>?_);obtain⟨⟨h,o⟩,y,B,b⟩:=bP (i:=0) (I N 10) q av;have C:=(b.block V l).trans p;have D:rK V E w (z.setCell ⟨E,0,hF⟩ (I N 10)):=⟨b.os.trans c.os,b.tape.trans c.tape,b.output.trans c.output,b.size.trans c.size,λk f g=>(b.block k g).trans (c.block k f g)⟩;go_simp;refine d _ _ trivial λ_=>?_
 clear d;refine L ?_;refine jt ?_
 cases u
 simp_all [bodyPostS,results,results30]
def Mt(w:hZ)(o:Option Val)(e:jP)(w':hZ):Prop:=
 ii w w w'/\match o with
  |some x=>∃a,e=ja (jB #[ic #[I N x.k,I N x.n,hQ x.s,a],I N 0])/\ao (λg=>w.heap.size<=g/\g<w'.heap.size) w' x a
  |none=>e=ja (jB #[ic zeroV,I N 10])
theorem Dl(l:LBy)(p:Option jw)(n c:Nat)(w:hZ)(F:ah (·<w.heap.size) w (T p n c) 1 l.length (l.map v8))(hl:l.length<=1000000):
 jb ih 9 #[T p n c] w (Mt w (dec l)):=by
 have bb:∀(fn:Fn) (first a5:Array hU) (w:hZ),(Instr.makeFunc fn first a5).run ih w=.ok (.func fn first a5) w:=λ_ _ _ _=>rfl
 obtain⟨ov,b⟩:=J (dec l);rw[<-b];have t:=O b;have m:=O F;clear b F
 go_enter_defers func9,ntmps9
 go_upto_region 3 with fail
 have e:=af w (hK zeroV 43);have d:=je w (hK zeroV 43);have g:=af (w.alloc (hK zeroV 43)) (hK #[I N 0] 35);have b:=je (w.alloc (hK zeroV 43)) (hK #[I N 0] 35);have h:=af ((w.alloc (hK zeroV 43)).alloc (hK #[I N 0] 35)) (hK #[T p n c] 90);have j:=je ((w.alloc (hK zeroV 43)).alloc (hK #[I N 0] 35)) (hK #[T p n c] 90);rw[jm]at b;rw[jm,jm]at j;replace d:=ak (ak d g) h;replace b:=ak b h;have k:=(e.trans (g.mono e.size)).trans (h.mono (e.trans (g.mono e.size)).size);obtain⟨U,o⟩:=J (((w.alloc (hK zeroV 43)).alloc (hK #[I N 0] 35)).alloc (hK #[T p n c] 90));have q:((w.alloc (hK #[I N 0,I N 0,hQ ⟨#[]⟩,T hF 0 0] 43)).alloc (hK #[I N 0] 35)).alloc (hK #[T p n c] 90)=U:=o.symm;rw[q];rw[<-o]at d b j k;clear o q e g h;obtain⟨V,s⟩:=J w.heap.size;rw[<-s]at d b j⊢;have u:RdC U (V+1+1) l:=by
  obtain⟨o,q,r,e,v⟩:=id m;injection e with x h y
  subst h;refine⟨p,c,j,(m.keep (λg z=>k.block g z)).mono (λg (z:g<w.heap.size)=>by omega)⟩
 have v:=O s;have UH:=O d;have P:=O b;have W:=O k;have RN:=O (Iy 16 (V+1+1) l U 0 rfl u hl);obtain⟨o,H⟩:=J (bV 16 l);rw[<-H]at RN;have Q:hH (ov=o.bind λr=>if r.2=[]then A r.1 else hF):=O (by rw[t,H];rfl);have T6:=O (fun(q:Val×LBy) (h:o=A q)=>wC 16 l q (by rw[<-H];exact h));clear H d b j k s u t m
 go_wp2_with fail
 refine RN.mono ?_;rintro e m ⟨u,hm⟩;have X:=(u.block V (jf.1 UH).1 Y).trans UH;have au:=(u.block (V+1) (jf.1 P).1 Y).trans P;have a1:ii w w m:=W.trans ⟨u.os,u.tape,u.output,u.size,λk hk=>u.block k (a8 W.size) (aw v)⟩
 rcases o with _|q
 ·obtain rfl:e=.panicked gK:=hm
  have b:hH (ov=hF):=O (by rw[Q];rfl);refine p6 (f:=30) (args:=#[ji (A ⟨V,0,hF⟩),ji (A ⟨V+1,0,hF⟩)]) av (by simp[go_sem]) ?_;refine(Dd V (V+1) Y zeroV rfl _ _ m X au).mono ?_;rintro e u' TM ⟨rfl,rfl,C,aa,y⟩;have E:ii w w TM:=a1.trans ⟨y.os,y.tape,y.output,jA y.size.symm,λk hk=>y.block k (aw v) (aw v)⟩;have K:=cell_of (i:=0) C rfl;have c1:=cell_of (i:=1) C rfl;have M:=cell_of (i:=2) C rfl;have c3:=cell_of (i:=3) C rfl;have e0:=cell_of (i:=0) aa rfl;have ad:=b.out;clear C aa b Q T6 RN UH P W v X au a1 u y;simp[Leaves,settle,results,results9,go_sem,K,c1,M,c3,e0];rw[ad];exact⟨E,rfl⟩
 obtain⟨x,r⟩:=q;obtain⟨⟨bc,rfl,F⟩,hr⟩:=hm;obtain⟨b,d,rfl⟩:=F.form;obtain⟨s,TZ⟩:=J x.k;obtain⟨t,TT⟩:=J x.n;obtain⟨xs,QL⟩:=J x.s;obtain⟨j,a2⟩:=J x.l.length;dsimp only;rw[<-TZ,<-TT,<-QL,<-a2];rw[<-a2]at F;have YB:=O (And.intro TZ (And.intro TT QL));have C:(m.setRow V #[I N s,I N t,hQ xs,T b j d]).heap[V]?=A (hK #[I N s,I N t,hQ xs,T b j d] 43 (0,0)):=jL _ _ _ _ _ _ X;have aa:=(jh m V (V+1) #[I N s,I N t,hQ xs,T b j d] Y).trans au;have a3:∀k,k≠V->(m.setRow V #[I N s,I N t,hQ xs,T b j d]).heap[k]?=m.heap[k]?:=λk hk=>jh m V k _ hk
 have y:=j1 a1 (jA v.symm) #[I N s,I N t,hQ xs,T b j d];obtain⟨p2,M,Ya⟩:=hr.cell;obtain⟨a4,hN⟩:=J r.length;rw[<-hN]at Ya;have d0:(m.setRow V #[I N s,I N t,hQ xs,T b j d]).cell? ⟨V+1+1,0,hF⟩=A (T p2 a4 M):=(bz (a:=⟨V+1+1,0,hF⟩) (a3 (V+1+1) Y)).trans Ya;have Z8:=O X;have B:=O C;have R:=O aa;have S:=O y;have ba:(m.setRow V #[I N s,I N t,hQ xs,T b j d]).heap.size=m.heap.size:=by simp[mb]
 have al:hH (ao (λg=>w.heap.size<=g/\g<(m.setRow V #[I N s,I N t,hQ xs,T b j d]).heap.size/\V+1<g) (m.setRow V #[I N s,I N t,hQ xs,T b j d]) x (T b j d)):=O (ao.mono (D:=λg=>U.heap.size<=g/\g<m.heap.size) (λg z=>⟨by have:=W.size;omega,by rw[ba];exact z.2,by have:=(jf.1 P).1;omega⟩) _ _ (ao.keep (λg (z:U.heap.size<=g/\g<m.heap.size)=>a3 g (by have:=(jf.1 P).1;omega)) _ _ F));have U6:=O hN;clear TZ TT QL a2 X C aa y a3 hr Ya F au a1 u hN ba UH P W RN T6
 by_cases hz:a4=0
 ·subst hz
  have F:hH (ov=A x):=O (by rw[Q,jp,if_pos (qi U6.symm)]);clear U6 Q
  go_wp2_with (refine js rfl λ_ P=>jj 43 _ _ rfl V #[I N s,I N t,hQ xs,T b j d] rfl rfl 43 _ Z8.out eL rfl (by simp[jn]) (P _ _ ?_))
  generalize m.setRow V #[I N s,I N t,hQ xs,T b j d]=y at B R S al⊢;refine(oF _ y).mono ?_;rintro e w6 ⟨rfl,rfl⟩;clear d0;have u:=dq B;obtain⟨⟨v0,K⟩,f0,C,H⟩:=bP (i:=0) (I N 0) R av;rw[<-u]at K f0;have HS:=O u;have VH:=O C;have W:=O H;clear u C H
  go_wp2_with (first|(refine jy rfl 43 _ rfl V rfl 43 #[I N s,I N t,hQ xs,T b j d] (0,0) _ B.out jH rfl eL ?_)|(refine js rfl λ_ P=>jj 43 _ _ rfl V #[I N s,I N t,hQ xs,T b j d] rfl rfl 43 _ B.out eL rfl (by simp[jn]) (P _ _ ?_)))
  rw[HS];refine p6 (f:=30) (args:=#[ji (A ⟨V,0,hF⟩),ji (A ⟨V+1,0,hF⟩)]) av (by simp[go_sem]) ?_;refine(Ov V (V+1) _).mono ?_;rintro e u' TM ⟨rfl,rfl,rfl⟩;have u:=(W.block V Y).trans B;have C:=VH.out;have X:ii w w (y.setCell ⟨V+1,0,hF⟩ (I N 0)):=S.trans (W.below (aw v));have T7:ao (λg=>w.heap.size<=g/\g<(y.setCell ⟨V+1,0,hF⟩ (I N 0)).heap.size) (y.setCell ⟨V+1,0,hF⟩ (I N 0)) x (T b j d):=ao.mono (D:=λg=>w.heap.size<=g/\g<y.heap.size/\V+1<g) (λg z=>⟨z.1,by rw[W.size];exact z.2.1⟩) _ _ (ao.keep (λg (z:w.heap.size<=g/\g<y.heap.size/\V+1<g)=>W.block g Y) _ _ al.out);generalize y.setCell ⟨V+1,0,hF⟩ (I N 0)=w6 at u C X T7⊢;have K:=cell_of (i:=0) u rfl;have c1:=cell_of (i:=1) u rfl;have M:=cell_of (i:=2) u rfl;have c3:=cell_of (i:=3) u rfl;have e0:=cell_of (i:=0) C rfl;have ad:=F.out;have g:=YB.out;clear u C F v Z8 B R S al HS VH W f0;simp[Leaves,settle,results,results9,go_sem,K,c1,M,c3,e0];rw[ad];exact⟨X,_,by rw[g.1,g.2.1,g.2.2],T7⟩
 have g:((a4:Int)==0)=false:=by simp;omega
 have F:hH (ov=hF):=O (by rw[Q,jp,if_neg (λh=>hz (by rw[U6];simp at h;rw[h];rfl))]);clear U6 Q
 go_wp2_with (refine js rfl λ_ P=>jj 43 _ _ rfl V #[I N s,I N t,hQ xs,T b j d] rfl rfl 43 _ Z8.out eL rfl (by simp[jn]) (P _ _ ?_))
 generalize m.setRow V #[I N s,I N t,hQ xs,T b j d]=y at B R S al d0⊢;refine(nI _ y).mono ?_;rintro e w6 ⟨rfl,rfl⟩;refine p6 (f:=30) (args:=#[ji (A ⟨V,0,hF⟩),ji (A ⟨V+1,0,hF⟩)]) av (by simp[go_sem]) ?_;refine(Dd V (V+1) Y _ rfl _ _ y B R).mono ?_;rintro e u' TM ⟨rfl,rfl,u,C,E⟩;have X:ii w w TM:=S.trans ⟨E.os,E.tape,E.output,jA E.size.symm,λk hk=>E.block k (aw v) (aw v)⟩;have K:=cell_of (i:=0) u rfl;have c1:=cell_of (i:=1) u rfl;have M:=cell_of (i:=2) u rfl;have c3:=cell_of (i:=3) u rfl;have e0:=cell_of (i:=0) C rfl;have ad:=F.out;clear u C F v E Z8 B R S al d0;simp[Leaves,settle,results,results9,go_sem,K,c1,M,c3,e0];rw[ad];exact⟨X,rfl⟩
def bD:List PanicEntry:=[{v:=.iface 84 (ic #[]),recovered:=false}]
theorem ah.dropK{D:Nat->Prop}{w:hZ}{p b:Option jw}{a c n sz:Nat}{xs:List hU}(h:ah D w (T p a c) sz a xs)(y:n<=a)(f:b=hF->p=hF)(i:0<a-n->∀g o,p=A ⟨g,o,hF⟩->b=A ⟨g,o+n*sz,hF⟩):ah D w (T b (a-n) (c-n)) sz (a-n) (xs.drop (n*sz)):=by
 obtain⟨k,z,B,e,C,l,m⟩:=h;injection e with q E r
 subst q;subst r;refine⟨by rw[List.length_drop,k,Nat.sub_mul],b,c-n,rfl,by omega,λs=>by have:=l (f s);omega,λt=>?_⟩;obtain⟨g,o,ep,u,v⟩:=m Y;refine⟨g,o+n*sz,i t g o ep,u,λj x d=>?_⟩;rw[Nat.add_assoc];exact v (n*sz+j) x (by rw[List.getElem?_drop]at d;exact d)
theorem Ij{P:Program}(t e:jq)(k:Nat)(b:P.underlying t=A (.slice e))(i:∀w,(sizeOf e).run P w=.ok k w)(p:Option jw)(n c l:Nat)(m:l<=n)(q:n<=c)(j:p=hF->c=0):
 ∃d,(∀W,(Instr.sliceAt t (T p n c) (A (I N (l:Int))) hF hF).run P W=.ok (T d (n-l) (c-l)) W)/\(d=hF->p=hF)/\(0<n-l->∀g o,p=A ⟨g,o,hF⟩->d=A ⟨g,o+l*k,hF⟩):=by
 have he:P.elem t=e:=by simp[Program.elem,b]
 rcases p with _|a
 ·obtain rfl:=j rfl
  obtain rfl:n=0:=Y;obtain rfl:l=0:=Y;refine⟨hF,λW=>?_,λ_=>rfl,λh=>absurd h Y⟩;rw[run_sliceAt_slice W t _ _ _ _ (by rw[he];exact b),run_slice_l W t _ 0 0 (by rw[he];exact b) .i64 _ Y Y,he];simp[i,Result.andThen,sliced]
 refine⟨A (if c=l then a else a.add (l*k)),λW=>?_,λh=>(by cases h),λh g o f=>?_⟩
 ·rw[run_sliceAt_slice W t _ _ _ _ (by rw[he];exact b),run_slice_l W t _ n c (by rw[he];exact b) .i64 _ Y Y,he]
  simp[i,Result.andThen,sliced]
  by_cases h:c=l
  ·simp[h]
  rw[if_neg Y,if_neg h]
 injection f with f
 subst f;rw[if_neg Y];simp[Addr.add]
theorem CS(R B:Nat)(w:hZ)(cs:Array hU):aD R B w (w.setRow B cs):=⟨rfl,rfl,rfl,jA (by simp[mb]),λk hk _=>jh _ _ _ _ Y⟩
theorem Gy:∀w,(sizeOf 43).run ih w=.ok 4 w:=λw=>by go_simp
def RdV(N0:Nat)(w:hZ)(R:Nat)(l:List Val):Prop:=
 ∃(p:Option jw) (c:Nat) (a:List hU),w.heap[R]?=A (hK #[T p l.length c] 150 (0,0))/\ah (·<N0) w (T p l.length c) 4 l.length (aW l a)/\ax (·<N0) w l a
theorem RdV.keep{N0 R:Nat}{w w':hZ}{l:List Val}(h:RdV N0 w R l)(a:w'.heap[R]?=w.heap[R]?)(hk:∀k,k<N0->w'.heap[k]?=w.heap[k]?):RdV N0 w' R l:=by
 obtain⟨p,c,b,d,e,f⟩:=h;exact⟨p,c,b,a.trans d,e.keep hk,ax.keep hk _ _ f⟩
theorem RdV.lt{N0 R:Nat}{w:hZ}{l:List Val}(h:RdV N0 w R l):R<w.heap.size:=by
 obtain⟨p,c,b,a,-⟩:=h;exact(jf.1 a).1
theorem RdV.below{N0 R:Nat}{w w':hZ}{l:List Val}(h:RdV N0 w R l)(b:N0<=R)(a:ii w w w'):RdV N0 w' R l:=
 h.keep (a.block R h.lt) (λk hk=>a.block k (a8 h.lt))
theorem RdV.new{N0:Nat}{w:hZ}{l:List Val}{a:hU}{x:Val}(e:x.l=l)(h:ao (·<N0) w x a)(j:N0<=w.heap.size):RdV N0 (w.alloc (hK #[a] 150)) w.heap.size l:=by
 obtain⟨k,n,s,b⟩:=x;obtain rfl:b=l:=e;rw[ao]at h;obtain⟨f,d,i⟩:=h;obtain⟨p,c,rfl⟩:=d.form;have hk:∀g,g<N0->(w.alloc (hK #[T p b.length c] 150)).heap[g]?=w.heap[g]?:=λg m=>Below.heap_alloc _ _ _ Y
 exact⟨p,c,f,je _ _,d.keep hk,ax.keep hk _ _ i⟩
def FH(N0 R:Nat)(w:hZ)(o:Option (Val×List Val))(e:jP)(w':hZ):Prop:=
 aD R w.heap.size w w'/\match o with
  |some r=>(∃a,e=ja (ic #[I N r.1.k,I N r.1.n,hQ r.1.s,a])/\ao (·<N0) w' r.1 a)/\RdV N0 w' R r.2
  |none=>e=.panicked bD
theorem Oz{N0 R:Nat}{w:hZ}{x:Val}{l:List Val}(h:RdV N0 w R (x::l)):∃g o c a b i,w.heap[R]?=A (hK #[T (A ⟨g,o,hF⟩) (l.length+1) c] 150 (0,0))/\l.length+1<=c/\g<N0/\
 w.cell? ⟨g,o,hF⟩=A (I N x.k)/\w.cell? ⟨g,o+1,hF⟩=A (I N x.n)/\w.cell? ⟨g,o+2,hF⟩=A (hQ x.s)/\w.cell? ⟨g,o+3,hF⟩=A (T a x.l.length b)/\
 ao (·<N0) w x (T a x.l.length b)/\ah (·<N0) w (T (A ⟨g,o,hF⟩) (l.length+1) c) 4 (l.length+1) (aW (x::l) (T a x.l.length b::i))/\ax (·<N0) w l i:=by
 obtain⟨p,c,i,m,j,d⟩:=h;rw[ax]at d;obtain⟨v,n,rfl,k,d⟩:=d;obtain⟨a,b,rfl⟩:=k.form;obtain⟨y,z,B,e,q,C,r⟩:=id j;injection e with s D t
 subst s;subst t;obtain⟨g,o,rfl,u,f⟩:=r av;exact⟨g,o,c,a,b,n,m,q,u,f 0 _ rfl,f 1 _ rfl,f 2 _ rfl,f 3 _ rfl,k,j,d⟩
theorem tn(N0 R:Nat)(hN:N0<=R)(k:Int)(l:List Val)(w:hZ)(h:RdV N0 w R l)(Q:l.length<=1000000):
 jb ih 80 #[ji (A ⟨R,0,hF⟩),I N k] w (FH N0 R w (nx k l)):=by
 have b:=af w (hK zeroV 43);have c:=je w (hK zeroV 43);have j:=h.below hN b;have a2:=h.lt;obtain⟨B,a⟩:=J w.heap.size;obtain⟨d,e⟩:=J (w.alloc (hK zeroV 43));have f:w.alloc (hK #[I N 0,I N 0,hQ ⟨#[]⟩,T hF 0 0] 43)=d:=e.symm;have g:d.heap.size=B+1:=by rw[e,a];simp
 rw[<-e]at b c j;rw[<-a]at c a2;have HX:=O c;have y:=O b;have RQ:=O a;have u:=O g;have m:=O f;clear f e c b g;obtain⟨ov,b⟩:=J (nx k l);rw[<-b];have H:=O b
 go_enter func80,ntmps80
 go_upto_region 1 with fail
 rw[m,<-a];clear m a b h
 rcases l with _|⟨x,l⟩
 ·obtain⟨p,c,K,e,-,-⟩:=j
  have z:=cell_of (i:=0) e rfl;have a:hH (ov=hF):=O (by rw[H];rfl);have b:d.cell? ⟨R,0,hF⟩=A (T p 0 c):=z;clear z e
  go_wp2_with fail
  exact⟨rfl,aD.of_below y,by rw[a];rfl⟩
 obtain⟨g,o,c,f,m,K,e,s,hg,U,V,X,d3,C,t,S⟩:=Oz j;have z:=cell_of (i:=0) e rfl;obtain⟨a,D⟩:=J l.length;obtain⟨b,v⟩:=J x.k;obtain⟨p,E⟩:=J x.n;obtain⟨xs,F⟩:=J x.s;obtain⟨q,M⟩:=J x.l.length;have ba:a<=1000000:=by simp at Q;omega
 rw[<-D]at e z s t;rw[<-M]at d3 C t;rw[<-v]at U;rw[<-E]at V;rw[<-F]at X;obtain⟨r,e5,e6,e7⟩:=Ij 150 43 4 underlying150 Gy (A ⟨g,o,hF⟩) (a+1) c 1 Y s (λh=>by cases h);have bb:∀W,(Instr.sliceAt 150 (T (A ⟨g,o,hF⟩) (a+1) c) (A (I N 1)) hF hF).run ih W=.ok (T r a (c-1)) W:=e5;have hd:=t.dropK (n:=1) Y e6 e7;have aa:ah (·<N0) d (T r a (c-1)) 4 a (aW l K):=hd;have HD:=O aa;have HU:=O C;have HV:=O S;have H1:=O e;have RY:=O D;have P:=O (And.intro v (And.intro E F));have bc:=O M;have HC:=O s;have a3:((a+1:Nat):Int)≠0:=Y;have a4:(((a:Int)+1)==0)=false:=by simp;omega
 clear j Q hd aa t C S e D E F M e5 e6 e7 s
 by_cases hk:b=k
 ·have t1:(b !=k)=false:=by simpa using hk
  have M:hH (ov=A (x,l)):=O (by rw[H,nx,if_pos (by rw[<-v];exact hk)]);clear v hk;have j:=af d (hK #[I N b,I N p,hQ xs,T f q m] 43);have C:=je d (hK #[I N b,I N p,hQ xs,T f q m] 43);rw[u]at C;obtain⟨t,D⟩:=J (d.alloc (hK #[I N b,I N p,hQ xs,T f q m] 43));rw[<-D]at j C;have aa:t.heap.size=B+2:=by rw[D];simp[u.out]
  have Q:=(j.block R (aw u)).trans H1;have ad:=(j.block B (aw u)).trans HX;have a5:=cell_of (i:=0) Q rfl;obtain⟨-,f0,al,E⟩:=bP (i:=0) (T r a (c-1)) Q av;have Wv:=(E.block (B+1) Y).trans C;have au:=(E.block B Y).trans ad;have a1:=O D;have F:=O j;have PL:=O al;have S:=O au;have QP:=O Wv;have s:=O E;have Px:=O aa;have bd:=u.out;clear D j Q ad al E Wv au C aa
  go_upto_region 4 with fail
  rw[<-a1];clear U V X d3 z a1
  go_upto_region 5 with fail
  have C:(t.setCell ⟨R,0,hF⟩ (T r a (c-1))).heap.size=B+2:=by rw[s.size,Px]
  have E:∀j,j<B+1->j≠R->(t.setCell ⟨R,0,hF⟩ (T r a (c-1))).heap[j]?=d.heap[j]?:=λj e h2=>(s.block j h2).trans (F.block j (by rw[u];exact e))
  have Q:=O E;have QU:hH (aD R w.heap.size w (t.setCell ⟨R,0,hF⟩ (T r a (c-1)))):=O ((aD.of_below (y.trans (F.mono y.size))).trans (⟨s.os,s.tape,s.output,jA s.size.symm,λk _ hk=>s.block k hk⟩:aD R t.heap.size t _) (by have:=y.size;have:=F.size;omega));obtain⟨D,aa⟩:=J (t.setCell ⟨R,0,hF⟩ (T r a (c-1)));rw[<-aa]at PL S QP Q QU C⊢;clear aa a5 f0 E s F a3 a4;have E:=O C;clear C
  go_wp2_with (first|(refine jy rfl 43 _ rfl (B+1) rfl 43 #[I N b,I N p,hQ xs,T f q m] (0,0) _ QP.out jH rfl eL ?_)|(refine js rfl λ_ s=>jj 43 _ _ rfl B #[I N b,I N p,hQ xs,T f q m] rfl rfl 43 _ S.out eL rfl (by simp[jn]) (s _ _ ?_)))
  have C:=jL D B _ #[I N b,I N p,hQ xs,T f q m] _ _ S.out;refine jE (jW rfl _ _ B 43 #[I N b,I N p,hQ xs,T f q m] (0,0) _ rfl C jH rfl eL) rfl ⟨?_,?_⟩
  ·refine QU.trans (CS R B D _) (by rw[RQ];exact jc _)
  rw[M];have s:∀j,j<N0->(D.setRow B #[I N b,I N p,hQ xs,T f q m]).heap[j]?=d.heap[j]?:=λj F=>(jh _ _ _ _ Y).trans (Q j Y Y)
  refine⟨⟨_,by rw[P.1,P.2.1,P.2.2],?_⟩,r,c-1,K,?_,?_,?_⟩
  ·exact ao.keep s _ _ HU.out
  ·rw[<-RY]
   exact(jh _ _ _ _ Y).trans PL
  ·rw[<-RY];exact HD.keep s
  exact ax.keep s _ _ HV.out
 have t1:(b !=k)=true:=by simpa using hk
 have M:hH (ov=hF):=O (by rw[H,nx,if_neg (by rw[<-v];exact hk)]);clear v
 go_wp2_with fail
 exact⟨rfl,aD.of_below y,by rw[M];rfl⟩
def NL(N0 R:Nat)(w:hZ)(o:Option (Int×List Val))(e:jP)(w':hZ):Prop:=
 aD R w.heap.size w w'/\match o with
  |some r=>e=ja (I N r.1)/\RdV N0 w' R r.2
  |none=>e=.panicked bD
def Hy(N0 R:Nat)(w:hZ)(o:Option (ByteArray×List Val))(e:jP)(w':hZ):Prop:=
 aD R w.heap.size w w'/\match o with
  |some r=>e=ja (hQ r.1)/\RdV N0 w' R r.2
  |none=>e=.panicked bD
def FX(N0 R:Nat)(w:hZ)(o:Option (LBy×List Val))(e:jP)(w':hZ):Prop:=
 aD R w.heap.size w w'/\match o with
  |some r=>e=ja (ic (r.1.map v8).toArray)/\RdV N0 w' R r.2
  |none=>e=.panicked bD
def FE(N0 R:Nat)(w:hZ)(o:Option ((Int×LBy)×List Val))(e:jP)(w':hZ):Prop:=
 aD R w.heap.size w w'/\match o with
  |some r=>(∃a,e=ja (ic #[I N r.1.1,a])/\ah (λg=>w.heap.size<=g/\g<w'.heap.size) w' a 1 r.1.2.length (r.1.2.map v8))/\RdV N0 w' R r.2
  |none=>e=.panicked bD
def L0(N0 R:Nat)(w:hZ)(o:Option (List Val×List Val))(e:jP)(w':hZ):Prop:=
 aD R w.heap.size w w'/\match o with
  |some r=>(∃B a,e=ja (.func (.func 148) #[] #[ji (A ⟨B,0,hF⟩)])/\w.heap.size<=B/\w'.heap[B]?=A (hK #[a] 41 (0,0))/\ao (·<N0) w' (vL r.1) a)/\RdV N0 w' R r.2
  |none=>e=.panicked bD
theorem Ms(k n:Int)(s:ByteArray)(a:hU)(W:hZ):(Instr.field 43 (ic #[I N k,I N n,hQ s,a]) 1).run ih W=.ok (I N n) W:=by kernel_rfl
theorem Io(k n:Int)(s:ByteArray)(a:hU)(W:hZ):(Instr.field 43 (ic #[I N k,I N n,hQ s,a]) 2).run ih W=.ok (hQ s) W:=by kernel_rfl
theorem CG(k n:Int)(s:ByteArray)(a:hU)(W:hZ):(Instr.field 43 (ic #[I N k,I N n,hQ s,a]) 3).run ih W=.ok a W:=by kernel_rfl
theorem fA(N0 R:Nat)(f:N0<=R)(l:List Val)(w:hZ)(h:RdV N0 w R l)(g:l.length<=1000000):
 jb ih 77 #[ji (A ⟨R,0,hF⟩)] w (NL N0 R w (rI l)):=by
 have i:=Ms;have a:=O (tn N0 R f 1 l w h g);unfold rI;obtain⟨o,b⟩:=J (nx 1 l);rw[<-b]at a⊢;clear b h
 go_enter func77,ntmps77
 go_wp2_with fail
 refine a.mono ?_;rintro e w' ⟨b,c⟩;have d:=O b;clear b a
 rcases o with _|r
 ·obtain rfl:e=.panicked bD:=c
  exact⟨rfl,d,rfl⟩
 obtain⟨⟨j,rfl,a⟩,b⟩:=c;obtain⟨k,m,rfl⟩:=a.form;have h:=O b;clear b a
 go_wp2_with fail
 go_ret;exact⟨d,rfl,h⟩
theorem Ex(N0 R:Nat)(f:N0<=R)(l:List Val)(w:hZ)(h:RdV N0 w R l)(g:l.length<=1000000):
 jb ih 147 #[ji (A ⟨R,0,hF⟩)] w (Hy N0 R w (rT l)):=by
 have i:=Io;have a:=O (tn N0 R f 2 l w h g);unfold rT;obtain⟨o,b⟩:=J (nx 2 l);rw[<-b]at a⊢;clear b h
 go_enter func147,ntmps147
 go_wp2_with fail
 refine a.mono ?_;rintro e w' ⟨b,c⟩;have d:=O b;clear b a
 rcases o with _|r
 ·obtain rfl:e=.panicked bD:=c
  exact⟨rfl,d,rfl⟩
 obtain⟨⟨j,rfl,a⟩,b⟩:=c;obtain⟨k,m,rfl⟩:=a.form;have h:=O b;clear b a
 go_wp2_with fail
 go_ret;exact⟨d,rfl,h⟩
theorem Gd{l:List Val}{r:Int×List Val}(h:rI l=A r):r.2.length<=l.length:=by
 unfold rI at h
 rcases l with _|⟨x,l⟩
 ·cases h
 rw[nx]at h
 split at h
 ·injection h with h;rw[<-h];simp
 cases h
def oZ:Array hU:=(pr 32 (jF .u8 0)).toArray
theorem LF(g n c:Nat)(h:32<=n)(W:hZ):(Instr.arrayAt 23 (T (A ⟨g,0,hF⟩) n c)).run ih W=.ok (ji (A ⟨g,0,hF⟩)) W:=by
 have a:(underlying 23).run ih W=.ok (.array 32 5) W:=run_underlying j3 W;simp[Instr.arrayAt,Sem.run_bind,a,Result.andThen,show ¬n<32 by omega]
theorem GK{w:hZ}{g n c:Nat}{l:LBy}(h:BytesAt w (T (A ⟨g,0,hF⟩) n c) l):w.rangeAt g 0 (l.map v8):=by
 obtain⟨p,o,e,-,-,b⟩:=h;injection e with i q r
 intro j v f;have d:j<l.length:=by have:=(j5.1 f).1;simpa using this
 obtain⟨s,t,a,b⟩:=b Y;rw[<-i]at a;injection a with a
 injection a with k m
 subst k;subst m;rw[b j d,<-f,jU,jO d];simp[jV,d]
theorem Br(N0 R:Nat)(i:N0<=R)(l:List Val)(w:hZ)(h:RdV N0 w R l)(P:l.length<=1000000):
 jb ih 78 #[ji (A ⟨R,0,hF⟩)] w (FX N0 R w (rD l)):=by
 have a:=af w (hK oZ 23);have b:=je w (hK oZ 23);have c:=h.below i a;obtain⟨B,d⟩:=J w.heap.size;obtain⟨q,e⟩:=J (w.alloc (hK oZ 23));have Q:=h.lt;rw[<-e]at a b c;rw[<-d]at b Q;have g:=O b;have t:=O a;have u:=O d;have f:=O e;have j:=O (Ex N0 R i l q c P);unfold rD;obtain⟨o,k⟩:=J (rT l);rw[<-k]at j⊢;clear k h a b c e d
 go_enter func78,ntmps78
 go_upto_region 1 with fail
 rw[show w.alloc (hK aI 23)=q from f.symm,<-u];clear f
 go_wp2_with fail
 refine j.mono ?_;rintro e b ⟨a,v⟩;have c:=(a.block B (jf.1 g).1 Y).trans g;have d:aD R w.heap.size w b:=(aD.of_below t).trans a t.size;have m:=O c;have f:=O d;clear a j c d g
 rcases o with _|r
 ·obtain rfl:e=.panicked bD:=v
  exact⟨rfl,f,rfl⟩
 obtain⟨s,r⟩:=r;obtain⟨rfl,a⟩:=v;have x:=O a;clear a;obtain⟨n,c⟩:=J s.size
 by_cases d:n=32
 ·have g:hH (((A (s,r)).bind λr=>if r.1.size=32 then A (aK r.1,r.2)else hF)=A (aK s,r)):=O (by rw[jp,if_pos (by rw[<-c];exact d)])
  have S:((s.size:Int)!=32)=false:=by rw[<-c,d];rfl
  have kc:=ti s;have kb:=rx s b;have h:=pM s b b.heap.size (jc _);have j:s.size=32:=by rw[<-c];exact d
  rw[j]at kb;have y:=(h.block B (jf.1 m).1).trans m;have z:=x.below i h;have C:=f.trans (aD.of_below h) f.size;have ka:=LF b.heap.size s.size (fJ s b) Y;have D:=O y;have U:=O z;have V:=O C;have E:=O (GK kb);have F:(aK s).length=32:=by rw[et];exact j
  have p:=O F;obtain⟨a,H⟩:=J (aK s);rw[<-H]at E p g;have k:(ih.info? 23).map (·.size)=A (a.map v8).length:=by rw[jd,p];kernel_rfl
  have K:(ih.info? 23).map (·.size)=A (a.map v8).toArray.size:=by rw[jl];exact k
  have W:=O k;have M:=O K;have X:hH (oZ.size=(a.map v8).toArray.size):=O (by rw[show(a.map v8).toArray.size=(a.map v8).length from jl ..,jd,p];rfl);clear c d kb h y z C F H k K m x f j
  go_wp2_with (first|(refine js rfl λ_ h=>wp_load_mid 23 _ rfl b.heap.size 0 rfl (a.map v8) _ E.out j3 rfl W (h _ _ ?_))|(refine js rfl λ_ h=>jj 23 _ _ rfl B (a.map v8).toArray rfl rfl 23 oZ D M X (dA a) (h _ _ ?_)))
  have h:=jL (dU s b) B _ (a.map v8).toArray _ _ D.out;refine jE (jW rfl _ _ B 23 (a.map v8).toArray (0,0) _ rfl h j3 rfl M) rfl ⟨?_,?_⟩
  ·exact V.trans (CS R B (dU s b) _) (by rw[u];exact jc _)
  rw[g];exact⟨rfl,U.keep (jh _ _ _ _ Y) (λk hk=>jh _ _ _ _ Y)⟩
 have g:hH (((A (s,r)).bind λr=>if r.1.size=32 then A (aK r.1,r.2)else hF)=hF):=O (by rw[jp,if_neg (by rw[<-c];exact d)]);have S:((s.size:Int)!=32)=true:=by rw[<-c];simp;omega
 clear c d
 go_wp2_with fail
 exact⟨rfl,f,by rw[g];rfl⟩
theorem ah.of_bytes{D:Nat->Prop}{w:hZ}{g n c:Nat}{l:LBy}(h:BytesAt w (T (A ⟨g,0,hF⟩) n c) l)(f:n=l.length)(i:D g):ah D w (T (A ⟨g,0,hF⟩) n c) 1 l.length (l.map v8):=by
 obtain⟨p,y,e,k,z,m⟩:=h;injection e with q B r
 refine⟨by simp,A ⟨g,0,hF⟩,c,by rw[f],by rw[r];exact k,(λh=>by cases h),λs=>?_⟩;obtain⟨C,o,a,t⟩:=m s;rw[<-q]at a;injection a with a
 injection a with u x
 refine⟨g,0,rfl,i,λj v d=>?_⟩;have b:j<l.length:=by have:=(j5.1 d).1;simpa using this
 rw[u,x,t j b,<-d,jU,jO b];simp[jV,b]
theorem ah.keepAt{D:Nat->Prop}{w w':hZ}{g n c m sz:Nat}{xs:List hU}(h:ah D w (T (A ⟨g,0,hF⟩) n c) sz m xs)(hk:w'.heap[g]?=w.heap[g]?):ah D w' (T (A ⟨g,0,hF⟩) n c) sz m xs:=by
 obtain⟨i,p,k,e,l,q,r⟩:=h;refine⟨i,p,k,e,l,q,λs=>?_⟩;injection e with t B C
 obtain⟨b,o,f,u,v⟩:=r s;have d:=t.trans f;injection d with d
 injection d with x E
 refine⟨b,o,f,u,λj y z=>(bz (a:=⟨b,o+j,hF⟩) ?_).trans (v j y z)⟩;show w'.heap[b]?=w.heap[b]?;rw[<-x];exact hk
theorem wM:(ih.info? 71).map (·.size)=A 2:=by kernel_rfl
theorem Dc(N0 R:Nat)(j:N0<=R)(l:List Val)(w:hZ)(h:RdV N0 w R l)(m:l.length<=1000000):
 jb ih 81 #[ji (A ⟨R,0,hF⟩)] w (FE N0 R w (rW l)):=by
 have c:=af w (hK #[I N 0,T hF 0 0] 71);have e:=je w (hK #[I N 0,T hF 0 0] 71);have g:=h.below j c;obtain⟨B,k⟩:=J w.heap.size;obtain⟨W,p⟩:=J (w.alloc (hK #[I N 0,T hF 0 0] 71));have X:=h.lt;rw[<-p]at c e g;rw[<-k]at e X;have q:=O e;have x:=O c;have t:=O k;have u:=O p;have d:=O (fA N0 R j l W g m);have s:=O (fun(r:Int×List Val) (h:rI l=A r)=>Gd h);obtain⟨ov,a⟩:=J (rW l);rw[<-a];unfold rW at a;obtain⟨o,f⟩:=J (rI l);rw[<-f]at d s a;have aa:hH (o=hF->ov=hF):=O (λh=>by rw[a,h];rfl);have v:hH (∀n r,o=A (n,r)->ov=(rT r).map λb=>((n,aK b.1),b.2)):=O (λn r h=>by rw[a,h];rfl);clear f h c e g p k a
 go_enter func81,ntmps81
 go_upto_region 1 with fail
 rw[<-u,<-t];clear u
 go_wp2_with fail
 refine d.mono ?_;rintro e y ⟨c,b⟩;have a:=(c.block B (jf.1 q).1 Y).trans q;have g:aD R w.heap.size w y:=(aD.of_below x).trans c x.size;have p:=O a;have k:=O g;clear c d a g q
 rcases o with _|r
 ·obtain rfl:e=.panicked bD:=b
  exact⟨rfl,k,by rw[aa rfl]⟩
 obtain⟨n,r⟩:=r;obtain⟨rfl,g⟩:=b;have a:r.length<=1000000:=jk (s _ rfl) m;have d:=O (Ex N0 R j r y g a);have u:=O (v n r rfl);dsimp only;obtain⟨o,f⟩:=J (rT r);rw[<-f]at d u;clear v;clear g f s m a
 go_wp2_with fail
 refine d.mono ?_;rintro e a ⟨c,b⟩;have q:=(c.block B (jf.1 p).1 Y).trans p;have s:aD R w.heap.size w a:=k.trans c k.size;have f:=O q;have m:=O s;clear c d q s p k
 rcases o with _|q
 ·obtain rfl:e=.panicked bD:=b
  exact⟨rfl,m,by rw[u];rfl⟩
 obtain⟨s,q⟩:=q;obtain⟨rfl,g⟩:=b;have kc:=ti s;have kb:=rx s a;have d:=pM s a a.heap.size (jc _);have k:(dU s a).heap.size=a.heap.size+1:=by unfold dU;exact Lib.bytesWorld_size a 5 s
 have z:=g.below j d;have C:=(d.block B (jf.1 f).1).trans f;have E:=m.trans (aD.of_below d) m.size;have F:B<a.heap.size:=(jf.1 f).1;obtain⟨⟨v0,c0⟩,f0,H,K⟩:=bP (i:=0) (I N n) C av;have M:((dU s a).setCell ⟨B,0,hF⟩ (I N n)).heap[B]?=A (hK #[I N n,T hF 0 0] 71 (0,0)):=H;obtain⟨⟨v1,c1⟩,f1,P,Q⟩:=bP (i:=1) (T (A ⟨a,0,hF⟩) s.size (fJ s a)) M av;have S:(((dU s a).setCell ⟨B,0,hF⟩ (I N n)).setCell ⟨B,1,hF⟩ (T (A ⟨a,0,hF⟩) s.size (fJ s a))).heap[B]?=A (hK #[I N n,T (A ⟨a,0,hF⟩) s.size (fJ s a)] 71 (0,0)):=P;have c:=O S;have Qs:=O z;have Pf:=O E;have Wp:=O kb;have U:=O k;have p:=O K;have v:=O Q;have V:=O F;clear g kb d k z C E H M P S K Q F f m
 go_upto_region 2 with fail
 have d:∀k,k≠B->(((dU s a).setCell ⟨B,0,hF⟩ (I N n)).setCell ⟨B,1,hF⟩ (T (A ⟨a,0,hF⟩) s.size (fJ s a))).heap[k]?=(dU s a).heap[k]?:=λk hk=>(v.block k hk).trans (p.block k hk)
 have f:(((dU s a).setCell ⟨B,0,hF⟩ (I N n)).setCell ⟨B,1,hF⟩ (T (A ⟨a,0,hF⟩) s.size (fJ s a))).heap.size=a.heap.size+1:=by rw[v.size,p.size,U]
 have g:aD R B (dU s a) (((dU s a).setCell ⟨B,0,hF⟩ (I N n)).setCell ⟨B,1,hF⟩ (T (A ⟨a,0,hF⟩) s.size (fJ s a))):=⟨rfl,rfl,rfl,by rw[f,U];exact jc _,λk hk _=>d k Y⟩;obtain⟨C,z⟩:=J (((dU s a).setCell ⟨B,0,hF⟩ (I N n)).setCell ⟨B,1,hF⟩ (T (A ⟨a,0,hF⟩) s.size (fJ s a)));rw[<-z]at c d f g⊢;have m:=O d;have E:=O f;have F:=O g;clear d f g z c0 f0 c1 f1 p v kc
 go_wp2_with (first|(refine jy rfl 71 _ rfl B rfl 71 #[I N n,T (A ⟨a,0,hF⟩) s.size (fJ s a)] (0,0) _ c.out underlying71 rfl wM ?_)|(refine js rfl λ_ d=>jj 71 _ _ rfl B #[I N n,T (A ⟨a,0,hF⟩) s.size (fJ s a)] rfl rfl 71 _ c.out wM rfl (by simp[jn]) (d _ _ ?_)))
 rw[dq c];refine jE (jW rfl _ _ B 71 #[I N n,T (A ⟨a,0,hF⟩) s.size (fJ s a)] (0,0) _ rfl c underlying71 rfl wM) rfl ⟨?_,?_⟩
 ·exact Pf.trans F.out (by rw[t];exact jc _)
 rw[u];refine⟨⟨_,rfl,?_⟩,Qs.keep (m R Y) (λk hk=>m k Y)⟩;have h:=ah.of_bytes (D:=λg=>w.heap.size<=g/\g<C.heap.size) Wp (et s).symm ⟨by have:=V.out;have:=t.out;omega,by rw[E];omega⟩;have d:=ah.keepAt h (hk:=m a.heap.size (aw V));exact d
theorem vZ(N0 R:Nat)(m:N0<=R)(l:List Val)(w:hZ)(h:RdV N0 w R l)(y:l.length<=1000000):
 jb ih 79 #[ji (A ⟨R,0,hF⟩)] w (L0 N0 R w (rL l)):=by
 have D:∀(fn:Fn) (first p:Array hU) (w:hZ),(Instr.makeFunc fn first p).run ih w=.ok (.func fn first p) w:=λ_ _ _ _=>rfl
 have E:=h.lt;have F:=CG;have a:=O (tn N0 R m 3 l w h y);unfold rL;obtain⟨o,b⟩:=J (nx 3 l);rw[<-b]at a⊢;clear b h
 go_enter func79,ntmps79
 go_wp2_with fail
 refine a.mono ?_;rintro e d ⟨b,q⟩;have c:=O b;clear b a
 rcases o with _|r
 ·obtain rfl:e=.panicked bD:=q
  exact⟨rfl,c,rfl⟩
 obtain⟨x,r⟩:=r;obtain⟨⟨H,rfl,h⟩,i⟩:=q;obtain⟨a,b,rfl⟩:=h.form;have f:=af d (hK #[T a x.l.length b] 41);have t:=je d (hK #[T a x.l.length b] 41);have u:=i.below m f;have z:=i.lt;have v:=c.trans (aD.of_below f) c.size;have j:ao (·<N0) (d.alloc (hK #[T a x.l.length b] 41)) x (T a x.l.length b):=ao.keep (λg (k:g<N0)=>f.block g Y) _ _ h;have g:ao (·<N0) (d.alloc (hK #[T a x.l.length b] 41)) (vL x.l) (T a x.l.length b):=by
  obtain⟨k,n,s,B⟩:=x;unfold vL;rw[ao]at j⊢;exact j
 have k:=O u;have n:=O v;have s:=O g;have B:=O t;have C:=O c.size;clear h i f t u z v j g c
 go_wp2_with fail
 go_ret;exact⟨n,⟨_,_,rfl,C,B,s⟩,k⟩
end Go.Proofs.YtpfafeammikibaaGreatDoor
