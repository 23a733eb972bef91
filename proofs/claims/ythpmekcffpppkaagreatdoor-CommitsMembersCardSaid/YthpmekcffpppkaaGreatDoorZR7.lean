/- Texts of the proof, part 7 of 8 (Id Ie If Jb Jd Ru Je Jg Jf Jh Jk Lo Jp Qe Qg Rv Bw). -/
import Derived.Defers
import Derived.Recover
import Derived.Test.YthpmekcffpppkaaGreatDoorZR1
import Derived.Test.YthpmekcffpppkaaGreatDoorZR2
import Derived.Test.YthpmekcffpppkaaGreatDoorZR3
import Derived.Test.YthpmekcffpppkaaGreatDoorZR4
import Derived.Test.YthpmekcffpppkaaGreatDoorZR5
import Derived.Test.YthpmekcffpppkaaGreatDoorZR6
namespace Go.Proofs.YthpmekcffpppkaaGreatDoor
set_option maxHeartbeats 64000000
set_option maxRecDepth 100000
set_option linter.unusedVariables false
set_option linter.unusedSimpArgs false
open Go.RowKit
open Go.Proofs.Tryz
open Go.Value renaming int->I
open Go.IntKind renaming i64->N
open _root_.Option renaming some->T,none->A,bind_some->jm,map_some->jX
open Go.Value renaming slice->ic,agg->je,string->jg,pointer->jj,tuple->jt
open Go.RowKit renaming Hid->ih,Below->jk
open Go renaming World->ii,Value->jd,wpList_plain->jn,Calls->jo,wp_store_row->jp,undef->js,setRow_heap->jv,setRow_other->jy,bodyPost_ret_by->jA,TypeId->jB,below_setRow->jD,Exit->jE,wp_region_lit->jF,Ending->jG,wpList_load_row->jK,Oper->jL,Program->jM,Code->jN,Addr->jQ,bodyPost->jR,execOp->jT,fenced_wide->jU,PanicEntry->jZ,stepR_block->j0,results_cell_row->j7,wpS_region->j8,wp_region_noPanic->j9,leaves_cons->kn,Operand->lw,KeepsFrom->mb,callsIn_wide->qm,wp_store_mid->qn
open Go.Obj renaming cells->ja
open Go.Value renaming int->jb,oneCell'->jz,slice->ms
open Go.IntKind renaming u8->jc,i64->qc
open Go.Proofs.Tryz renaming prog->jf
open _root_.Nat renaming le_refl->jh,le_trans->ju,le_of_eq->jH,lt_of_lt_of_le->jO,zero_le->qb
open _root_.Array renaming getElem?_eq_some_iff->ji,replicate->jP,ext'->oj,toList_setIfInBounds->ol,replicate_succ->qA,replicate_zero->qB,all_eq_true_iff_forall_mem->qK
open Go.Ending renaming returned->jl
open Go.World renaming alloc_heap_new->jq,size_alloc->jS,setRow->lm,putObj_heap_other->lr,putObj->qd,cell?->qh,putObj_heap_same->qx,ownsRow_nil->qF
open Go.Proofs.Tryz renaming underlying29->jr,underlying37->jV,underlying118->jY,underlying23->ow,ntmps123->qa
open _root_.List renaming length_map->jw,mem_cons->jC,length_append->jI,size_toArray->jJ,cons_append->jW,getElem?_eq_getElem->j3,nodup_cons->j4,map_append->j5,set_cons_succ->ki,length->kl,map_nil->kw,getD->lo,not_mem_nil->lv,replicate->mz,getElem?_eq_some_iff->nn,getElem?_map->ob,nil_append->oi,set_append_right->oo,length_cons->pa,append_assoc->pz,map_cons->p6,mem_cons_self->qe,mem_append->qf,set->qg,setIfInBounds_toArray->qi,set_cons_zero->qj,append_nil->qk,length_filter_le->ql,map_toArray->qu,eq_nil_of_length_eq_zero->qw,mem_cons_of_mem->qy,length_nil->qz,push_toArray->qC,append_toArray->qD,take_of_length_le->qE,all_eq_true->qG,filter_cons_of_pos->qI,tail_drop->qJ,mem_toArray->qL,mem_nil_iff->qM
open Go.NoPanic renaming normal->j1
open _root_.Bool renaming and_eq_true->j6,false_eq_true->qv,or_eq_true->qH,eq_false_iff->qN
open Go.Proofs renaming intOf->km
open Go.RowKit.Below renaming heap_alloc->o4
open _root_.BitVec renaming ofNat->qo,eq_of_toNat_eq->qs,toNat_ofNat->qt
def wm(f:Nat):Prop:=∀(R:Nat) (l:LBy) (w:ii) (a:Nat),a+f=16->RdC w R l->l.length<=1000000->
 jo jf 124 #[jj (T ⟨R,0,A⟩),I N (a:Int)] w (Cv R w (bY f l))
theorem An(f:Nat):bY f []=A:=by cases f<;>rfl
theorem AU(f:Nat)(l:LBy):bY f (1#8::l)=(bP 9 0 l).map λr=>(.mk 1 (fK r.1) emS [],r.2):=by cases f<;>rfl
theorem Fi(f:Nat)(l:LBy):bY f (2#8::l)=(dX l).map λr=>(.mk 2 0 (ofB (r.2.take r.1)) [],r.2.drop r.1):=by cases f<;>rfl
theorem A5(l:LBy):bY 0 (3#8::l)=A:=rfl
theorem zi(f:Nat)(l:LBy):bY (f+1) (3#8::l)=(dX l).bind λr=>(dH (bY f) r.1 r.2).map λq=>(.mk 3 0 emS q.1,q.2):=rfl
theorem AF(f:Nat)(b:BitVec 8)(l:LBy)(a:b≠1#8)(c:b≠2#8)(d:b≠3#8):bY f (b::l)=A:=by
 cases f<;>simp only[bY,if_neg a,if_neg c,if_neg d]
theorem eO:(jf.info? 118).map (·.size)=T 4:=by kernel_rfl
theorem RdC.keepR{w w':ii}{R:Nat}{l:LBy}(h:RdC w R l)(hk:∀k,k<=R->w'.heap[k]?=w.heap[k]?):RdC w' R l:=by
 obtain⟨p,c,a,b⟩:=h;exact⟨p,c,(hk R (jh _)).trans a,b.keep (λg (d:g<R)=>hk g Y)⟩
theorem td{R a n:Nat}{w w':ii}(h:kC a w w')(b:n<=a):aD R n w w':=⟨h.os,h.tape,h.output,jH h.size.symm,λk hk _=>h.block k Y⟩
theorem ts{l:LBy}{r:Nat×LBy}(h:dX l=T r):r.2.length<=l.length:=by
 unfold dX at h
 cases hh:bP 9 0 l with
 |none=>rw[hh]at h;cases h
 |some q=>
  rw[hh,jm]at h
  split at h
  ·injection h with h;rw[<-h];exact rF _ _ _ _ hh
  cases h
theorem zv{g:LBy->Option (Val×LBy)}(a:∀l r,g l=T r->r.2.length<=l.length):∀(n:Nat) (l:LBy) (q:List Val×LBy),dH g n l=T q->q.2.length<=l.length
 |0,l,q,h=>by
  rw[dH]at h;injection h with h
  rw[<-h];exact jh _
 |n+1,l,q,h=>by
  rw[dH]at h
  cases h1:g l with
  |none=>rw[h1]at h;cases h
  |some r=>
   rw[h1,jm]at h
   cases h2:dH g n r.2 with
   |none=>rw[h2]at h;cases h
   |some b=>
    rw[h2]at h;injection h with h
    rw[<-h];exact ju (zv a n r.2 b h2) (a l r h1)
theorem ye:∀(f:Nat) (l:LBy) (r:Val×LBy),bY f l=T r->r.2.length<=l.length
 |f,[],r,h=>by rw[An]at h;cases h
 |f,b::l,r,h=>by
  by_cases d:b=1#8
  ·subst d
   rw[AU]at h
   cases a:bP 9 0 l with
   |none=>rw[a]at h;cases h
   |some q=>
    rw[a]at h;injection h with h
    rw[<-h];have:=rF _ _ _ _ a;simp;omega
  by_cases a:b=2#8
  ·subst a
   rw[Fi]at h
   cases c:dX l with
   |none=>rw[c]at h;cases h
   |some q=>
    rw[c]at h;injection h with h
    rw[<-h];have:=ts c;simp;omega
  by_cases c:b=3#8
  ·subst c
   cases f with
   |zero=>rw[A5]at h;cases h
   |succ f=>
    rw[zi]at h
    cases h4:dX l with
    |none=>rw[h4]at h;cases h
    |some q=>
     rw[h4,jm]at h
     cases h5:dH (bY f) q.1 q.2 with
     |none=>rw[h5]at h;cases h
     |some e=>
      rw[h5]at h;injection h with h
      rw[<-h];have:=ts h4;have:=zv (ye f) _ _ _ h5;simp;omega
  rw[AF f b l d a c]at h;cases h
theorem CV(f:Nat)(e:∀a,f=a+1->wm a):wm f:=by
 intro R l w X bw h hl;obtain⟨ov,a⟩:=J (bY f l);rw[<-a];have P:=O a;clear a;obtain⟨m,a⟩:=J w.heap.size;obtain⟨W1,b⟩:=J (w.alloc (ja #[I N 0,I N 0,jg ⟨#[]⟩,ic A 0 0] 118));have c:=jq w (ja #[I N 0,I N 0,jg ⟨#[]⟩,ic A 0 0] 118);have s:=af w (ja #[I N 0,I N 0,jg ⟨#[]⟩,ic A 0 0] 118);have g:=h.but (w':=W1) (λk hk=>by rw[b];exact s.block k hk);have bA:R<m:=by rw[a];exact h.lt
 rw[<-b]at c s;rw[<-a]at c;have n:=O c;have d:ih (aD R w.heap.size w W1):=O (aD.of_below s);have o:=O g;have i:=O b;have HA:=O a;have bn:=O e;clear b c s g h e a
 go_enter func124,ntmps124
 go_upto_region 1 with fail
 rw[<-i,<-HA];clear i
 rcases l with _|⟨b,l⟩
 ·have S4:ih (ov=A):=O (by rw[P,An])
  go_wp2_with fail
  refine(CI R 1 [] W1 o ar Y).mono ?_;rintro e w' ⟨rfl,rfl⟩;exact⟨rfl,d,by rw[S4]⟩
 have al:l.length<=1000000:=by simp at hl;omega
 go_wp2_with fail
 refine(vv R 1 (b::l) W1 o ar hl).mono ?_;rintro e w2 ⟨p,rfl,hs,t,s⟩;obtain⟨-,p',c',e,-,-,hc⟩:=hs;injection e with e1 z B
 subst e1;obtain⟨g,o1,rfl,-,hc⟩:=hc L;have a:w2.cell? ⟨g,o1,A⟩=T (I .u8 (b.toNat:Int)):=hc 0 _ rfl;obtain⟨k,hk⟩:=J b.toNat;have E:k<256:=by rw[hk];exact b.isLt
 rw[<-hk]at a;replace t:RdC w2 R l:=t;have c:=(s.block m (ji.1 n).1 Y).trans n;obtain⟨⟨H,c0⟩,K,q,F⟩:=bH (i:=0) (I N (k:Int)) c L;have HK:=O hk;have QR:=O t;have r:=O (d.trans s d.size);have v:(w2.setCell ⟨m,0,A⟩ (I N (k:Int))).heap[m]?=T (ja #[I N (k:Int),I N 0,jg ⟨#[]⟩,ic A 0 0] 118 (0,0)):=q;have x:RdC (w2.setCell ⟨m,0,A⟩ (I N (k:Int))) R l:=t.keepR (λj hj=>F.block j Y);have y:aD R w.heap.size w (w2.setCell ⟨m,0,A⟩ (I N (k:Int))):=r.trans (td F (by rw[HA];exact jh _)) (jh _);have C:=O v;have QZ:=O x;have u:=O y;clear c q v F x y t s hc hk z B n d o r
 go_upto_region 2 with fail
 obtain⟨W3,c⟩:=J (w2.setCell ⟨m,0,A⟩ (I N (k:Int)));rw[<-c]at C QZ u⊢;clear c c0 K a H;obtain⟨H,a⟩:∃H:Int,H=(k:Int):=⟨_,rfl⟩;rw[<-a]at C⊢;have aa:ih (∀n:Nat,n<256->H=(n:Int)->b=qo 8 n):=O (λn c h=>qs (by have hk:=HK.out;rw[qt];omega));have YW:ih (∀n:Nat,n<256->b=qo 8 n->H=(n:Int)):=O (λn c h=>by have hk:=HK.out;rw[a,hk,h,qt];omega);have bB:0<=H:=Y;clear a E;have c0:=cell_of (i:=0) C rfl
 by_cases h1:H=1
 ·have au:=aa 1 L h1
  subst h1;obtain rfl:b=1#8:=au;have E:ih (ov=(bP 9 0 l).map λr=>(.mk 1 (fK r.1) emS [],r.2)):=O (by rw[P,AU]);have c:=O (CH R l W3 QZ al);obtain⟨o,a⟩:=J (bP 9 0 l);have Q:=O (fun(r:Nat×LBy) (h:o=T r)=>zW (l:=l) (r:=r) (by rw[<-a];exact h));rw[<-a]at c E;clear a aa YW P
  go_wp2_with fail
  refine c.mono ?_;rintro e M ⟨s,K⟩
  rcases o with _|q
  ·obtain rfl:e=.panicked gO:=K
   exact⟨rfl,u.trans s u.size,by rw[E];rfl⟩
  obtain⟨a1,r⟩:=q;obtain⟨rfl,t⟩:=K;have U:a1<18446744073709551616:=Q _ rfl;have S:=O t;have d:=O ((s.block m (ji.1 C).1 Y).trans C);have x:=O (u.trans s u.size);clear t s C QZ u c Q c0
  go_wp2_with fail
  refine(Mr a1 U M).mono ?_;rintro e w5 ⟨rfl,rfl⟩;obtain⟨v,y⟩:=J (fK a1);rw[<-y];have a2:=O y;clear y;obtain⟨⟨v1,c1⟩,f1,V,F⟩:=bH (i:=1) (I N v) d ar;have B:ih ((M.setCell ⟨m,1,A⟩ (I N v)).heap[m]?=T (ja #[I N 1,I N v,jg ⟨#[]⟩,ic A 0 0] 118 (0,0))):=O V;have W:=O (S.keepR (λj hj=>F.block j Y));have ad:=O (x.trans (td F (by rw[HA];exact jh _)) (jh _));have HE:ih (ov=T (.mk 1 v emS [],r)):=O (by rw[E,a2];rfl);clear V F S d x
  go_upto_region 14 with fail
  generalize M.setCell ⟨m,1,A⟩ (I N v)=z at B W ad⊢;clear c1 f1
  go_wp2_with (first|(refine jK rfl 118 _ rfl m rfl 118 #[I N 1,I N v,jg ⟨#[]⟩,ic A 0 0] (0,0) _ B.out jY rfl eO ?_)|(refine jn rfl λ_ y=>jp 118 _ _ rfl m #[I N 1,I N v,jg ⟨#[]⟩,ic A 0 0] rfl rfl 118 _ B.out eO rfl (by simp[jz]) (y _ _ ?_)))
  rw[du B];exact jA (j7 rfl _ _ m 118 #[I N 1,I N v,jg ⟨#[]⟩,ic A 0 0] (0,0) _ rfl B jY rfl eO) rfl ⟨ad,by rw[HE];exact⟨⟨_,rfl,(by rw[ao];exact⟨[],⟨rfl,A,0,rfl,jh _,λ_=>rfl,λh=>absurd h L⟩,by rw[ax]⟩)⟩,W⟩⟩
 by_cases h2:H=2
 ·have au:=aa 2 L h2
  subst h2;obtain rfl:b=2#8:=au;have E:ih (ov=(dX l).map λr=>(.mk 2 0 (ofB (r.2.take r.1)) [],r.2.drop r.1)):=O (by rw[P,Fi]);have c:=O (EV R l W3 QZ al);obtain⟨o,a⟩:=J (dX l);have Q:=O (fun(r:Nat×LBy) (h:o=T r)=>ts (l:=l) (r:=r) (by rw[<-a];exact h));rw[<-a]at c E;clear a aa YW h1 P
  go_wp2_with fail
  refine c.mono ?_;rintro e M ⟨s,K⟩
  rcases o with _|q
  ·obtain rfl:e=.panicked gO:=K
   exact⟨rfl,u.trans s u.size,by rw[E];rfl⟩
  obtain⟨n,r⟩:=q;obtain⟨rfl,t,a2⟩:=K;have Ri:r.length<=1000000:=ju (Q _ rfl) al;have S:=O t;have d:=O ((s.block m (ji.1 C).1 Y).trans C);have x:=O (u.trans s u.size);clear t s C QZ u c Q c0
  go_wp2_with fail
  refine(vv R n r M S a2 Ri).mono ?_;rintro e w5 ⟨p,rfl,hs,t,s⟩;have kc:=lW (ap.bytes (D:=(·<R)) (w:=w5) (v:=ic p n n) (l:=r.take n) (by rw[List.length_take,Nat.min_eq_left a2];exact hs));rw[pU]at kc;obtain⟨U,Tb⟩:=J (ofB (r.take n));rw[<-Tb]at kc;have a3:=O Tb;have TX:=O t;have UB:=O ((s.block m (ji.1 d).1 Y).trans d);have Qy:=O (x.trans s x.size);clear Tb t s hs d S x;obtain⟨⟨v1,c1⟩,f1,V,F⟩:=bH (i:=2) (jg U) UB ar;have B:ih ((w5.setCell ⟨m,2,A⟩ (jg U)).heap[m]?=T (ja #[I N 2,I N 0,jg U,ic A 0 0] 118 (0,0))):=O V;have W:=O (TX.keepR (λj hj=>F.block j Y));have ad:=O (Qy.trans (td F (by rw[HA];exact jh _)) (jh _));have HE:ih (ov=T (.mk 2 0 U [],r.drop n)):=O (by rw[E,a3];rfl);clear V F TX UB Qy
  go_upto_region 14 with fail
  generalize w5.setCell ⟨m,2,A⟩ (jg U)=z at B W ad⊢;clear c1 f1 kc
  go_wp2_with (first|(refine jK rfl 118 _ rfl m rfl 118 #[I N 2,I N 0,jg U,ic A 0 0] (0,0) _ B.out jY rfl eO ?_)|(refine jn rfl λ_ y=>jp 118 _ _ rfl m #[I N 2,I N 0,jg U,ic A 0 0] rfl rfl 118 _ B.out eO rfl (by simp[jz]) (y _ _ ?_)))
  rw[du B];exact jA (j7 rfl _ _ m 118 #[I N 2,I N 0,jg U,ic A 0 0] (0,0) _ rfl B jY rfl eO) rfl ⟨ad,by rw[HE];exact⟨⟨_,rfl,(by rw[ao];exact⟨[],⟨rfl,A,0,rfl,jh _,λ_=>rfl,λh=>absurd h L⟩,by rw[ax]⟩)⟩,W⟩⟩
 by_cases h3:H=3
 ·have au:=aa 3 L h3
  subst h3;obtain rfl:b=3#8:=au;have j:=O (oP (jj (T ⟨R,0,A⟩)) W3);have a3:=O (nM (jj (T ⟨R,0,A⟩)) W3);clear aa YW h1 h2
  rcases f with _|f
  ·have S4:ih (ov=A):=O (by rw[P,A5])
   have hd:=ak ((X:Int)<16);have Q3:=ak (X<16)
   go_wp2_with fail
   refine a3.mono ?_;rintro e M ⟨rfl,rfl⟩;exact⟨rfl,u,by rw[S4]⟩
  have hd:=aj ((X:Int)<16);have Q3:=aj (X<16);have E:ih (ov=(dX l).bind λr=>(dH (bY f) r.1 r.2).map λq=>(.mk 3 0 emS q.1,q.2)):=O (by rw[P,zi]);have c:=O (EV R l W3 QZ al);obtain⟨o,a⟩:=J (dX l);have Q:=O (fun(r:Nat×LBy) (h:o=T r)=>ts (l:=l) (r:=r) (by rw[<-a];exact h));rw[<-a]at c E;clear a P
  go_wp2_with fail
  refine j.mono ?_;rintro e M ⟨rfl,rfl⟩
  go_wp2_with fail
  refine c.mono ?_;rintro e M ⟨s,K⟩
  rcases o with _|q
  ·obtain rfl:e=.panicked gO:=K
   exact⟨rfl,u.trans s u.size,by rw[E];rfl⟩
  obtain⟨n,r⟩:=q;obtain⟨rfl,t,a2⟩:=K;have Ri:r.length<=1000000:=ju (Q _ rfl) al;have S:=O t;have d:=O ((s.block m (ji.1 C).1 Y).trans C);have x:=O (u.trans s u.size);clear t s C QZ u c Q c0;obtain⟨o,a⟩:=J (dH (bY f) n r);have Ra:ih (ov=o.map λq=>(.mk 3 0 emS q.1,q.2)):=O (by rw[E,a];rfl);have c:ih (o=(dH (bY f) (n-0) r).map λq=>([]++q.1,q.2)):=O (by rw[a];simp);have Q:ih (Vld (m+1) m M [] bJ []):=O (Vld.start d (ji.1 d).1);have bo:ih (n<=1000000):=O (ju a2 Ri);clear a E d j a3
  go_wp2_with fail
  go_loopw [37] (λv wr=>∃(i:Nat) (xs:List Val) (vr:jd) (us:List jd) (z:LBy),v=I N i/\i<=n/\ih (xs.length=i)/\ih (o=(dH (bY f) (n-i) z).map λq=>(xs++q.1,q.2))/\ih (Vld (m+1) m wr xs vr us)/\ih (RdC wr R z)/\ih (aD R w.heap.size w wr)/\ih (z.length<=1000000)) (λv _=>n-(km v).toNat)
  case atStart=>exact⟨0,[],bJ,[],r,rfl,qb _,O rfl,c,Q,S,x,O Ri⟩
  clear c Q S x;obtain⟨i,xs,vr,us,z,rfl,hi,a5,HO,j,ba,Sj,bg⟩:=hrel;have bC:=bo.out
  by_cases bI:i<n
  ·have bq:=aj ((i:Int)<(n:Int))
   have br:=aj (i<n);have bK:(i:Int)<(n:Int):=Y;obtain⟨Q,S,a4⟩:=aO j.own;rw[a5]at a4;subst a4;have x:wr.cell? ⟨m,3,A⟩=T (ic Q i S):=cell_of j.box rfl;obtain⟨o2,a⟩:=J (bY f z);have bb:=O a;have Vp:=O (fun(q:Val×LBy) (h:o2=T q)=>ye f z q (by rw[<-a];exact h));have Tm:ih (∀W,RdC W R z->jo jf 124 #[jj (T ⟨R,0,A⟩),I N (qc.wrap ((X:Int)+1))] W (Cv R W o2)):=O (λW c=>by
    have h:=bn f rfl R z W (X+1) Y c bg;have e1:qc.wrap ((X:Int)+1)=((X+1:Nat):Int):=by rw[IntKind.wrap_i64];omega
    rw[e1];rw[<-a]at h;exact h)
   clear a
   go_upto_region 12 with fail
   refine vS (λa=>a.cell? ⟨m,3,A⟩=T (ic Q i S)) 9 [(0,true),(1,true),(2,true),(3,true),(4,true),(5,false),(6,false),(7,false),(8,true),(9,false)] ae ae ae L (λc a d v w h=>by cases d<;>exact h) x ?_;obtain⟨wa,d⟩:=J wr.drew;have a:=aP wr;rw[<-d]at a⊢;have V:=O (j.later Y a.size (λk _ hk=>a.block k hk));have bh:=O (ba.but (λk hk=>a.block k hk));have c:=O (Sj.trans (aD.of_below a) Sj.size);clear a d x j ba Sj;iterate 5 refine zG ?_
   refine aR rfl (λK' y=>?_);go_simp;refine(Tm wa bh).mono ?_;rintro e W ⟨s,K⟩
   rcases o2 with _|q
   ·obtain rfl:e=.panicked gO:=K
    have S4:ih (ov=A):=O (by
     have a:n-i=(n-(i+1))+1:=Y;rw[Ra,HO,a,dH,<-bb]
     rfl)
    exact⟨rfl,c.trans s c.size,by rw[S4]⟩
   obtain⟨x,r2⟩:=q;obtain⟨⟨a1,rfl,hv⟩,t⟩:=K;obtain⟨d,v,rfl⟩:=hv.form;obtain⟨xk,Vi⟩:=J x.k;obtain⟨xn,U8⟩:=J x.n;obtain⟨ad,R9⟩:=J x.s;obtain⟨U,bc⟩:=J x.l.length;dsimp only;rw[<-Vi,<-U8,<-R9,<-bc];rw[<-bc]at hv;have bs:ih (eo x (ic d U v)=[I N xk,I N xn,jg ad,ic d U v]):=O (by unfold eo;rw[Vi,U8,R9]);have bM:m≠R:=Y;have bu:ih (o=(dH (bY f) (n-(i+1)) r2).map λq=>((xs++[x])++q.1,q.2)):=O (by
    have a:n-i=(n-(i+1))+1:=Y;rw[HO,a,dH,<-bb,jm,Option.map_map]
    congr 1
    funext q
    simp)
   have bv:ih (r2.length<=1000000):=O (ju (Vp _ rfl) bg);have bd:=O (V.later Y s.size (λk h1 h2=>s.block k h2 Y));have bk:ih (ao (λg=>m+1<=g/\g<W.heap.size/\(ms Q i S).ownBlock≠T g) W x (ic d U v)):=O (ao.mono (λg a=>⟨by have:=V.sz;omega,a.2,bW V.own (.inl a.1)⟩) _ _ hv);have bl:=O t;have bf:=O (c.trans s c.size);clear s hv t Vi U8 R9 bc V bh c Vp Tm bb;refine y _ _ (cell_of bd.box rfl) λV=>?_
   clear y;refine G ?_;refine aR rfl (λK' y=>?_);go_simp;have c:=af W (ja #[I N xk,I N xn,jg ad,ic d U v] 118);have Su:=ey W [I N xk,I N xn,jg ad,ic d U v] 118 (0,0) 4 1 1 rfl (jh _);refine y _ _ (cell_below V c) λTW=>?_
   clear y V;replace Su:bZ (W.alloc (ja #[I N xk,I N xn,jg ad,ic d U v] 118)) (ic (T ⟨W,0,A⟩) 1 1) 4 1 [I N xk,I N xn,jg ad,ic d U v]:=Su;generalize W.alloc (ja #[I N xk,I N xn,jg ad,ic d U v] 118)=wc at c Su TW⊢;have Q6:=O Su;have V:=O (bd.later Y c.size (λk _ hk=>c.block k hk));have bh:ih (ao (λg=>m+1<=g/\g<wc.heap.size/\(ms Q i S).ownBlock≠T g) wc x (ic d U v)):=O (ao.mono (λg a=>⟨a.1,jO a.2.1 c.size,a.2.2⟩) _ _ (ao.keep (λg a=>c.block g a.2.1) _ _ bk.out));have bm:=O (bl.but (λk hk=>c.block k hk));have bb:=O (bf.trans (aD.of_below c) bf.size);clear c Su bd bk bl bf;refine G ?_;refine aR rfl (λK' y=>?_);rw[if_pos ag];refine il _ _ rfl (m+1) (ic Q i S) _ _ rfl V.own _ 1 _ rfl Q6 (by simp[jz]) (by rw[a5];omega) V.sz λv' wd c=>?_
   have Qx:=c.own;obtain⟨pn,cn,rfl⟩:=aO Qx;have bc:=eh V.box c.grown (bW V.own (.inr Y));refine y _ _ (cell_of bc rfl) λTV=>?_
   clear y TW TV Qx;refine G ?_;refine zG ?_;refine gu rfl (λK' y=>?_);obtain⟨⟨vo,c3⟩,f3,Z6,Wh⟩:=bH (i:=3) (ic pn (xs.length+1) cn) bc ar;go_simp;refine y _ _ ?_;have bd:=O (V.push Y (x:=x) bh.out (by rw[bs];exact c) Z6 Wh);have bf:=O ((bm.keepR (w':=wd) (λk hk=>c.grown.block k (aU V.sz) (Ne.symm (bW V.own (.inr Y))))).keepR (λk hk=>Wh.block k Y));have bk:ih (aD R w.heap.size w (wd.setCell ⟨m,3,A⟩ (ic pn (xs.length+1) cn))):=O ((bb.trans (⟨c.grown.os,c.grown.tape,c.grown.output,c.grown.size,λk hk _=>c.grown.block k (aU bb.size) (Ne.symm (bW V.own (.inr (aw HA))))⟩:aD R w.heap.size wc wd) (jh _)).trans (td Wh (by rw[HA];exact jh _)) (jh _));clear y c3 f3 Z6 Wh c V bh bm bb Q6 bc
   go_wp2_with fail
   go_roundw
   case rel=>exact⟨i+1,xs++[x],_,_,r2,by go_num,by omega,O (by rw[jI,a5];rfl),bu,bd,bf,bk,bv⟩
   case measure=>simp only[km];omega
  obtain rfl:n=i:=Y;have bq:decide ((n:Int)<(n:Int))=false:=by simp
  have br:decide (n<n)=false:=by simp
  have HE:ih (ov=T (.mk 3 0 emS xs,z)):=O (by rw[Ra,HO,Nat.sub_self];simp[dH]);have B:=O j.box;have c:ih (ao (λg=>w.heap.size<=g/\g<wr.heap.size) wr (.mk 3 0 emS xs) vr):=O (by
   rw[ao];exact⟨us,ap.of_own j.own (λg a=>⟨by have:=(j.own.lt g a).1;have:=HA.out;omega,(j.own.lt g a).2⟩),ax.mono (λg a=>⟨by have:=HA.out;omega,a.2.1⟩) _ _ j.kids⟩)
  obtain⟨Q,S,a4⟩:=aO j.own;subst a4;clear j
  go_upto_region 14 with fail
  go_wp2_with (first|(refine jK rfl 118 _ rfl m rfl 118 #[I N 3,I N 0,jg ⟨#[]⟩,ic Q xs.length S] (0,0) _ B.out jY rfl eO ?_)|(refine jn rfl λ_ y=>jp 118 _ _ rfl m #[I N 3,I N 0,jg ⟨#[]⟩,ic Q xs.length S] rfl rfl 118 _ B.out eO rfl (by simp[jz]) (y _ _ ?_)))
  rw[du B];exact jA (j7 rfl _ _ m 118 #[I N 3,I N 0,jg ⟨#[]⟩,ic Q xs.length S] (0,0) _ rfl B jY rfl eO) rfl ⟨Sj,by rw[HE];exact⟨⟨_,rfl,c⟩,ba⟩⟩
 have a:b≠1#8/\b≠2#8/\b≠3#8:=⟨λh=>h1 (YW 1 L h),λh=>h2 (YW 2 L h),λh=>h3 (YW 3 L h)⟩;have S4:ih (ov=A):=O (by rw[P,AF f b l a.1 a.2.1 a.2.2]);have c:(H==1)=false:=by simpa using h1
 have d:(H==2)=false:=by simpa using h2
 have j:(H==3)=false:=by simpa using h3
 have a3:=O (nM (jj (T ⟨R,0,A⟩)) W3);clear aa YW h1 h2 h3 a
 go_wp2_with fail
 refine a3.mono ?_;rintro e M ⟨rfl,rfl⟩;exact⟨rfl,u,by rw[S4]⟩
theorem Jm:∀f,wm f:=by
 intro f
 induction f with
 |zero=>exact CV 0 (λa h=>by omega)
 |succ f b=>exact CV (f+1) (λa h=>by cases h;exact b)
structure r6(V E:Nat)(w w':ii):Prop where
 os:w'.os=w.os
 tape:w'.tape=w.tape
 output:w'.output=w.output
 size:w'.heap.size=w.heap.size
 block:∀k,k≠V->k≠E->w'.heap[k]?=w.heap[k]?
def zeroV:Array jd:=#[I N 0,I N 0,jg ⟨#[]⟩,ic A 0 0]
theorem LB{a:Act}{o:jL}(b:o.op=.build 118 #[])(W:ii):(jT a.eval o).run jf W=.ok (.value (je zeroV)) W:=by
 have h:∀W,(Instr.build 118 #[]).run jf W=.ok (je zeroV) W:=λW=>by
  unfold Instr.build;go_simp
  rfl
 simp only[jT,b,qu,kw,Sem.run_bind,h,Result.andThen_ok,Sem.run_pure]
theorem Lf:∀W,(Instr.typeAssert (.iface 41 (I N 10)) 20 41 false).run jf W=.ok (I N 10) W:=λ_=>by kernel_rfl
theorem Kb{a:Act}{o:jL}{x:lw}(b:o.op=.typeAssert x 20 41 false)(c:a.eval x=.iface 41 (I N 10))(W:ii):(jT a.eval o).run jf W=.ok (.value (I N 10)) W:=by
 simp only[jT,b,c,Sem.run_bind,Lf,Result.andThen_ok,Sem.run_pure]
theorem PL(V E:Nat)(w:ii):CallsD jf 123 #[jj (T ⟨V,0,A⟩),jj (T ⟨E,0,A⟩)] .returning w λe b w'=>e=jl (jt #[])/\b=.returning/\w'=w:=by
 refine callsD_of_wpS func123 rfl λc cs a=>?_
 apply wpS_seq
 apply j8
 simp[wpOpsS,go_sem,recoverD,a,qa,Exit.thenS]
 apply wpS_seq
 apply j8
 simp[wpOpsS,go_sem,recoverD,a,qa,Exit.thenS];refine wpS_cond (t:=false) (by simp[Act.eval,jP]) ?_;simp only[qv,if_false];refine wpS_of_wp (wp_skip ?_)
 cases c
 simp_all [bodyPostS,results,results123]
theorem DO(V E:Nat)(l:V≠E)(j:Array jd)(r:j.size=4)(x:jd)(m:List jZ)(w:ii)(d:w.heap[V]?=T (ja j 118 (0,0)))(f:w.heap[E]?=T (ja #[x] 41 (0,0))):
 CallsD jf 123 #[jj (T ⟨V,0,A⟩),jj (T ⟨E,0,A⟩)] (.panicking ({v:=.iface 41 (I N 10),recovered:=false}::m)) w λe s w'=>
  e=jl (jt #[])/\s=.panicking ({v:=.iface 41 (I N 10),recovered:=true}::m)/\w'.heap[V]?=T (ja zeroV 118 (0,0))/\w'.heap[E]?=T (ja #[I N 10] 41 (0,0))/\r6 V E w w':=by
 refine callsD_of_wpS func123 rfl λu cs n=>?_
 apply wpS_seq
 apply j8
 simp[wpOpsS,go_sem,recoverD,n,qa,Exit.thenS]
 apply wpS_seq
 apply j8
 simp[wpOpsS,go_sem,recoverD,n,qa,Exit.thenS];refine wpS_cond (t:=true) (by simp[Act.eval,jP]) ?_;simp only[if_true];refine wpS_of_wp (show Code.wp _ _ _ {tmps:=#[jj (T ⟨V,0,A⟩),jj (T ⟨E,0,A⟩),.iface 41 (I N 10),.iface 41 (I N 10),.iface 41 (I N 10),.bool true,js,js,js],defers:=[]} _ from ?_);refine j9 ?_;refine bi (λ_=>True) (.take 0 (.take 1 (.take 2 (.one 3 (.one 4 .done))))) ae ae ae L (λ_ _ _ _ h=>h) trivial ?_;obtain⟨a,c⟩:=J w.drew;have h:a.heap[V]?=T (ja j 118 (0,0)):=by rw[c];exact d
 have o:a.heap[E]?=T (ja #[x] 41 (0,0)):=by rw[c];exact f
 have b:r6 V E w a:=by rw[c];exact⟨rfl,rfl,rfl,rfl,λ_ _ _=>rfl⟩
 rw[<-c];clear c d f
 (refine az (v:=je zeroV) rfl ag (λc d=>LB rfl c) ?_;refine G ?_)
 refine aS ?_
 (refine az (v:=I N 10) rfl ag (λc d=>Kb rfl rfl c) ?_;refine G ?_)
 refine ai rfl (λy d=>?_);rw[if_pos ag];refine jp 118 _ _ rfl V zeroV rfl rfl 118 _ h eO r (by simp[zeroV,jz]) ?_;refine d _ _ trivial λ_=>?_
 clear d;have p:(a.setRow V zeroV).heap[V]?=T (ja zeroV 118 (0,0)):=jv _ _ _ _ _ _ h;have q:=(jy a V E zeroV (Ne.symm l)).trans o;have c:r6 V E w (a.setRow V zeroV):=⟨b.os,b.tape,b.output,by rw[show(a.setRow V zeroV).heap.size=a.heap.size by simp[lm]];exact b.size,λk f g=>(jy a V k zeroV f).trans (b.block k f g)⟩;generalize a.setRow V zeroV=z at p q c⊢;clear h o b;refine G ?_;refine ai rfl (λy d=>?_);obtain⟨⟨h,o⟩,y,B,b⟩:=bH (i:=0) (I N 10) q ar;have C:=(b.block V l).trans p;have D:r6 V E w (z.setCell ⟨E,0,A⟩ (I N 10)):=⟨b.os.trans c.os,b.tape.trans c.tape,b.output.trans c.output,b.size.trans c.size,λk f g=>(b.block k g).trans (c.block k f g)⟩;go_simp;refine d _ _ trivial λ_=>?_
 clear d;refine G ?_;refine j1 ?_
 cases u
 simp_all [bodyPostS,results,results123]
def Nz(w:ii)(o:Option Val)(e:jG)(w':ii):Prop:=
 jk w w w'/\match o with
  |some x=>∃a,e=jl (jt #[je #[I N x.k,I N x.n,jg x.s,a],I N 0])/\ao (λg=>w.heap.size<=g/\g<w'.heap.size) w' x a
  |none=>e=jl (jt #[je zeroV,I N 10])
theorem ND(l:LBy)(p:Option jQ)(n c:Nat)(w:ii)(F:ap (·<w.heap.size) w (ic p n c) 1 l.length (l.map v8))(hl:l.length<=1000000):
 jo jf 57 #[ic p n c] w (Nz w (dec l)):=by
 have bc:∀(fn:Fn) (first ba:Array jd) (w:ii),(Instr.makeFunc fn first ba).run jf w=.ok (.func fn first ba) w:=λ_ _ _ _=>rfl
 obtain⟨ov,b⟩:=J (dec l);rw[<-b];have t:=O b;have m:=O F;clear b F
 go_enter_defers func57,ntmps57
 go_upto_region 3 with fail
 have e:=af w (ja zeroV 118);have d:=jq w (ja zeroV 118);have g:=af (w.alloc (ja zeroV 118)) (ja #[I N 0] 41);have b:=jq (w.alloc (ja zeroV 118)) (ja #[I N 0] 41);have h:=af ((w.alloc (ja zeroV 118)).alloc (ja #[I N 0] 41)) (ja #[ic p n c] 206);have j:=jq ((w.alloc (ja zeroV 118)).alloc (ja #[I N 0] 41)) (ja #[ic p n c] 206);rw[jS]at b;rw[jS,jS]at j;replace d:=av (av d g) h;replace b:=av b h;have k:=(e.trans (g.mono e.size)).trans (h.mono (e.trans (g.mono e.size)).size);obtain⟨U,o⟩:=J (((w.alloc (ja zeroV 118)).alloc (ja #[I N 0] 41)).alloc (ja #[ic p n c] 206));have q:((w.alloc (ja #[I N 0,I N 0,jg ⟨#[]⟩,ic A 0 0] 118)).alloc (ja #[I N 0] 41)).alloc (ja #[ic p n c] 206)=U:=o.symm;rw[q];rw[<-o]at d b j k;clear o q e g h;obtain⟨V,s⟩:=J w.heap.size;rw[<-s]at d b j⊢;have u:RdC U (V+1+1) l:=by
  obtain⟨o,q,r,e,v⟩:=id m;injection e with x h y
  subst h;refine⟨p,c,j,(m.keep (λg z=>k.block g z)).mono (λg (z:g<w.heap.size)=>by omega)⟩
 have v:=O s;have We:=O d;have P:=O b;have W:=O k;have Tm:=O (Jm 16 (V+1+1) l U 0 rfl u hl);obtain⟨o,H⟩:=J (bY 16 l);rw[<-H]at Tm;have Q:ih (ov=o.bind λr=>if r.2=[]then T r.1 else A):=O (by rw[t,H];rfl);have Vp:=O (fun(q:Val×LBy) (h:o=T q)=>ye 16 l q (by rw[<-H];exact h));clear H d b j k s u t m
 go_wp2_with fail
 refine Tm.mono ?_;rintro e m ⟨u,hm⟩;have X:=(u.block V (ji.1 We).1 Y).trans We;have au:=(u.block (V+1) (ji.1 P).1 Y).trans P;have a1:jk w w m:=W.trans ⟨u.os,u.tape,u.output,u.size,λk hk=>u.block k (aU W.size) (aw v)⟩
 rcases o with _|q
 ·obtain rfl:e=.panicked gO:=hm
  have b:ih (ov=A):=O (by rw[Q];rfl);refine kn (f:=123) (args:=#[jj (T ⟨V,0,A⟩),jj (T ⟨V+1,0,A⟩)]) ar (by simp[go_sem]) ?_;refine(DO V (V+1) Y zeroV rfl _ _ m X au).mono ?_;rintro e u' U1 ⟨rfl,rfl,C,aa,y⟩;have E:jk w w U1:=a1.trans ⟨y.os,y.tape,y.output,jH y.size.symm,λk hk=>y.block k (aw v) (aw v)⟩;have K:=cell_of (i:=0) C rfl;have c1:=cell_of (i:=1) C rfl;have M:=cell_of (i:=2) C rfl;have c3:=cell_of (i:=3) C rfl;have e0:=cell_of (i:=0) aa rfl;have ad:=b.out;clear C aa b Q Vp Tm We P W v X au a1 u y;simp[Leaves,settle,results,results57,go_sem,K,c1,M,c3,e0];rw[ad];exact⟨E,rfl⟩
 obtain⟨x,r⟩:=q;obtain⟨⟨bd,rfl,F⟩,hr⟩:=hm;obtain⟨b,d,rfl⟩:=F.form;obtain⟨s,Vi⟩:=J x.k;obtain⟨t,U8⟩:=J x.n;obtain⟨xs,R9⟩:=J x.s;obtain⟨j,a3⟩:=J x.l.length;dsimp only;rw[<-Vi,<-U8,<-R9,<-a3];rw[<-a3]at F;have YZ:=O (And.intro Vi (And.intro U8 R9));have C:(m.setRow V #[I N s,I N t,jg xs,ic b j d]).heap[V]?=T (ja #[I N s,I N t,jg xs,ic b j d] 118 (0,0)):=jv _ _ _ _ _ _ X;have aa:=(jy m V (V+1) #[I N s,I N t,jg xs,ic b j d] Y).trans au;have a4:∀k,k≠V->(m.setRow V #[I N s,I N t,jg xs,ic b j d]).heap[k]?=m.heap[k]?:=λk hk=>jy m V k _ hk
 have y:=jD a1 (jH v.symm) #[I N s,I N t,jg xs,ic b j d];obtain⟨p2,M,ZH⟩:=hr.cell;obtain⟨a5,hN⟩:=J r.length;rw[<-hN]at ZH;have d0:(m.setRow V #[I N s,I N t,jg xs,ic b j d]).cell? ⟨V+1+1,0,A⟩=T (ic p2 a5 M):=(bE (a:=⟨V+1+1,0,A⟩) (a4 (V+1+1) Y)).trans ZH;have a2:=O X;have B:=O C;have R:=O aa;have S:=O y;have bb:(m.setRow V #[I N s,I N t,jg xs,ic b j d]).heap.size=m.heap.size:=by simp[lm]
 have al:ih (ao (λg=>w.heap.size<=g/\g<(m.setRow V #[I N s,I N t,jg xs,ic b j d]).heap.size/\V+1<g) (m.setRow V #[I N s,I N t,jg xs,ic b j d]) x (ic b j d)):=O (ao.mono (D:=λg=>U.heap.size<=g/\g<m.heap.size) (λg z=>⟨by have:=W.size;omega,by rw[bb];exact z.2,by have:=(ji.1 P).1;omega⟩) _ _ (ao.keep (λg (z:U.heap.size<=g/\g<m.heap.size)=>a4 g (by have:=(ji.1 P).1;omega)) _ _ F));have WJ:=O hN;clear Vi U8 R9 a3 X C aa y a4 hr ZH F au a1 u hN bb We P W Tm Vp
 by_cases hz:a5=0
 ·subst hz
  have F:ih (ov=T x):=O (by rw[Q,jm,if_pos (qw WJ.symm)]);clear WJ Q
  go_wp2_with (refine jn rfl λ_ P=>jp 118 _ _ rfl V #[I N s,I N t,jg xs,ic b j d] rfl rfl 118 _ a2.out eO rfl (by simp[jz]) (P _ _ ?_))
  generalize m.setRow V #[I N s,I N t,jg xs,ic b j d]=y at B R S al⊢;refine(oP _ y).mono ?_;rintro e w6 ⟨rfl,rfl⟩;clear d0;have u:=du B;obtain⟨⟨v0,K⟩,f0,C,H⟩:=bH (i:=0) (I N 0) R ar;rw[<-u]at K f0;have HS:=O u;have Ys:=O C;have W:=O H;clear u C H
  go_wp2_with (first|(refine jK rfl 118 _ rfl V rfl 118 #[I N s,I N t,jg xs,ic b j d] (0,0) _ B.out jY rfl eO ?_)|(refine jn rfl λ_ P=>jp 118 _ _ rfl V #[I N s,I N t,jg xs,ic b j d] rfl rfl 118 _ B.out eO rfl (by simp[jz]) (P _ _ ?_)))
  rw[HS];refine kn (f:=123) (args:=#[jj (T ⟨V,0,A⟩),jj (T ⟨V+1,0,A⟩)]) ar (by simp[go_sem]) ?_;refine(PL V (V+1) _).mono ?_;rintro e u' U1 ⟨rfl,rfl,rfl⟩;have u:=(W.block V Y).trans B;have C:=Ys.out;have X:jk w w (y.setCell ⟨V+1,0,A⟩ (I N 0)):=S.trans (W.below (aw v));have Uj:ao (λg=>w.heap.size<=g/\g<(y.setCell ⟨V+1,0,A⟩ (I N 0)).heap.size) (y.setCell ⟨V+1,0,A⟩ (I N 0)) x (ic b j d):=ao.mono (D:=λg=>w.heap.size<=g/\g<y.heap.size/\V+1<g) (λg z=>⟨z.1,by rw[W.size];exact z.2.1⟩) _ _ (ao.keep (λg (z:w.heap.size<=g/\g<y.heap.size/\V+1<g)=>W.block g Y) _ _ al.out);generalize y.setCell ⟨V+1,0,A⟩ (I N 0)=w6 at u C X Uj⊢;have K:=cell_of (i:=0) u rfl;have c1:=cell_of (i:=1) u rfl;have M:=cell_of (i:=2) u rfl;have c3:=cell_of (i:=3) u rfl;have e0:=cell_of (i:=0) C rfl;have ad:=F.out;have g:=YZ.out;clear u C F v a2 B R S al HS Ys W f0;simp[Leaves,settle,results,results57,go_sem,K,c1,M,c3,e0];rw[ad];exact⟨X,_,by rw[g.1,g.2.1,g.2.2],Uj⟩
 have g:((a5:Int)==0)=false:=by simp;omega
 have F:ih (ov=A):=O (by rw[Q,jm,if_neg (λh=>hz (by rw[WJ];simp at h;rw[h];rfl))]);clear WJ Q
 go_wp2_with (refine jn rfl λ_ P=>jp 118 _ _ rfl V #[I N s,I N t,jg xs,ic b j d] rfl rfl 118 _ a2.out eO rfl (by simp[jz]) (P _ _ ?_))
 generalize m.setRow V #[I N s,I N t,jg xs,ic b j d]=y at B R S al d0⊢;refine(nM _ y).mono ?_;rintro e w6 ⟨rfl,rfl⟩;refine kn (f:=123) (args:=#[jj (T ⟨V,0,A⟩),jj (T ⟨V+1,0,A⟩)]) ar (by simp[go_sem]) ?_;refine(DO V (V+1) Y _ rfl _ _ y B R).mono ?_;rintro e u' U1 ⟨rfl,rfl,u,C,E⟩;have X:jk w w U1:=S.trans ⟨E.os,E.tape,E.output,jH E.size.symm,λk hk=>E.block k (aw v) (aw v)⟩;have K:=cell_of (i:=0) u rfl;have c1:=cell_of (i:=1) u rfl;have M:=cell_of (i:=2) u rfl;have c3:=cell_of (i:=3) u rfl;have e0:=cell_of (i:=0) C rfl;have ad:=F.out;clear u C F v E a2 B R S al d0;simp[Leaves,settle,results,results57,go_sem,K,c1,M,c3,e0];rw[ad];exact⟨X,rfl⟩
def bG:List jZ:=[{v:=.iface 123 (je #[]),recovered:=false}]
theorem ap.dropK{D:Nat->Prop}{w:ii}{p b:Option jQ}{a c n sz:Nat}{xs:List jd}(h:ap D w (ic p a c) sz a xs)(y:n<=a)(f:b=A->p=A)(i:0<a-n->∀g o,p=T ⟨g,o,A⟩->b=T ⟨g,o+n*sz,A⟩):ap D w (ic b (a-n) (c-n)) sz (a-n) (xs.drop (n*sz)):=by
 obtain⟨k,z,B,e,C,l,m⟩:=h;injection e with q E r
 subst q;subst r;refine⟨by rw[List.length_drop,k,Nat.sub_mul],b,c-n,rfl,by omega,λs=>by have:=l (f s);omega,λt=>?_⟩;obtain⟨g,o,ep,u,v⟩:=m Y;refine⟨g,o+n*sz,i t g o ep,u,λj x d=>?_⟩;rw[Nat.add_assoc];exact v (n*sz+j) x (by rw[List.getElem?_drop]at d;exact d)
theorem I8{P:jM}(t e:jB)(k:Nat)(b:P.underlying t=T (.slice e))(i:∀w,(sizeOf e).run P w=.ok k w)(p:Option jQ)(n c l:Nat)(m:l<=n)(q:n<=c)(j:p=A->c=0):
 ∃d,(∀W,(Instr.sliceAt t (ic p n c) (T (I N (l:Int))) A A).run P W=.ok (ic d (n-l) (c-l)) W)/\(d=A->p=A)/\(0<n-l->∀g o,p=T ⟨g,o,A⟩->d=T ⟨g,o+l*k,A⟩):=by
 have he:P.elem t=e:=by simp[Program.elem,b]
 rcases p with _|a
 ·obtain rfl:=j rfl
  obtain rfl:n=0:=Y;obtain rfl:l=0:=Y;refine⟨A,λW=>?_,λ_=>rfl,λh=>absurd h Y⟩;rw[run_sliceAt_slice W t _ _ _ _ (by rw[he];exact b),run_slice_l W t _ 0 0 (by rw[he];exact b) .i64 _ Y Y,he];simp[i,Result.andThen,sliced]
 refine⟨T (if c=l then a else a.add (l*k)),λW=>?_,λh=>(by cases h),λh g o f=>?_⟩
 ·rw[run_sliceAt_slice W t _ _ _ _ (by rw[he];exact b),run_slice_l W t _ n c (by rw[he];exact b) .i64 _ Y Y,he]
  simp[i,Result.andThen,sliced]
  by_cases h:c=l
  ·simp[h]
  rw[if_neg Y,if_neg h]
 injection f with f
 subst f;rw[if_neg Y];simp[Addr.add]
theorem Dn(R B:Nat)(w:ii)(cs:Array jd):aD R B w (w.setRow B cs):=⟨rfl,rfl,rfl,jH (by simp[lm]),λk hk _=>jy _ _ _ _ Y⟩
theorem Hh:∀w,(sizeOf 118).run jf w=.ok 4 w:=λw=>by go_simp
def RdV(N0:Nat)(w:ii)(R:Nat)(l:List Val):Prop:=
 ∃(p:Option jQ) (c:Nat) (a:List jd),w.heap[R]?=T (ja #[ic p l.length c] 208 (0,0))/\ap (·<N0) w (ic p l.length c) 4 l.length (aX l a)/\ax (·<N0) w l a
theorem RdV.keep{N0 R:Nat}{w w':ii}{l:List Val}(h:RdV N0 w R l)(a:w'.heap[R]?=w.heap[R]?)(hk:∀k,k<N0->w'.heap[k]?=w.heap[k]?):RdV N0 w' R l:=by
 obtain⟨p,c,b,d,e,f⟩:=h;exact⟨p,c,b,a.trans d,e.keep hk,ax.keep hk _ _ f⟩
theorem RdV.lt{N0 R:Nat}{w:ii}{l:List Val}(h:RdV N0 w R l):R<w.heap.size:=by
 obtain⟨p,c,b,a,-⟩:=h;exact(ji.1 a).1
theorem RdV.below{N0 R:Nat}{w w':ii}{l:List Val}(h:RdV N0 w R l)(b:N0<=R)(a:jk w w w'):RdV N0 w' R l:=
 h.keep (a.block R h.lt) (λk hk=>a.block k (aU h.lt))
theorem RdV.new{N0:Nat}{w:ii}{l:List Val}{a:jd}{x:Val}(e:x.l=l)(h:ao (·<N0) w x a)(j:N0<=w.heap.size):RdV N0 (w.alloc (ja #[a] 208)) w.heap.size l:=by
 obtain⟨k,n,s,b⟩:=x;obtain rfl:b=l:=e;rw[ao]at h;obtain⟨f,d,i⟩:=h;obtain⟨p,c,rfl⟩:=d.form;have hk:∀g,g<N0->(w.alloc (ja #[ic p b.length c] 208)).heap[g]?=w.heap[g]?:=λg m=>o4 _ _ _ Y
 exact⟨p,c,f,jq _ _,d.keep hk,ax.keep hk _ _ i⟩
def Gm(N0 R:Nat)(w:ii)(o:Option (Val×List Val))(e:jG)(w':ii):Prop:=
 aD R w.heap.size w w'/\match o with
  |some r=>(∃a,e=jl (je #[I N r.1.k,I N r.1.n,jg r.1.s,a])/\ao (·<N0) w' r.1 a)/\RdV N0 w' R r.2
  |none=>e=.panicked bG
theorem PR{N0 R:Nat}{w:ii}{x:Val}{l:List Val}(h:RdV N0 w R (x::l)):∃g o c a b i,w.heap[R]?=T (ja #[ic (T ⟨g,o,A⟩) (l.length+1) c] 208 (0,0))/\l.length+1<=c/\g<N0/\
 w.cell? ⟨g,o,A⟩=T (I N x.k)/\w.cell? ⟨g,o+1,A⟩=T (I N x.n)/\w.cell? ⟨g,o+2,A⟩=T (jg x.s)/\w.cell? ⟨g,o+3,A⟩=T (ic a x.l.length b)/\
 ao (·<N0) w x (ic a x.l.length b)/\ap (·<N0) w (ic (T ⟨g,o,A⟩) (l.length+1) c) 4 (l.length+1) (aX (x::l) (ic a x.l.length b::i))/\ax (·<N0) w l i:=by
 obtain⟨p,c,i,m,j,d⟩:=h;rw[ax]at d;obtain⟨v,n,rfl,k,d⟩:=d;obtain⟨a,b,rfl⟩:=k.form;obtain⟨y,z,B,e,q,C,r⟩:=id j;injection e with s D t
 subst s;subst t;obtain⟨g,o,rfl,u,f⟩:=r ar;exact⟨g,o,c,a,b,n,m,q,u,f 0 _ rfl,f 1 _ rfl,f 2 _ rfl,f 3 _ rfl,k,j,d⟩
theorem tM(N0 R:Nat)(hN:N0<=R)(k:Int)(l:List Val)(w:ii)(h:RdV N0 w R l)(Q:l.length<=1000000):
 jo jf 129 #[jj (T ⟨R,0,A⟩),I N k] w (Gm N0 R w (nx k l)):=by
 have b:=af w (ja zeroV 118);have c:=jq w (ja zeroV 118);have j:=h.below hN b;have a2:=h.lt;obtain⟨B,a⟩:=J w.heap.size;obtain⟨d,e⟩:=J (w.alloc (ja zeroV 118));have f:w.alloc (ja #[I N 0,I N 0,jg ⟨#[]⟩,ic A 0 0] 118)=d:=e.symm;have g:d.heap.size=B+1:=by rw[e,a];simp
 rw[<-e]at b c j;rw[<-a]at c a2;have HX:=O c;have y:=O b;have SE:=O a;have u:=O g;have m:=O f;clear f e c b g;obtain⟨ov,b⟩:=J (nx k l);rw[<-b];have H:=O b
 go_enter func129,ntmps129
 go_upto_region 1 with fail
 rw[m,<-a];clear m a b h
 rcases l with _|⟨x,l⟩
 ·obtain⟨p,c,K,e,-,-⟩:=j
  have z:=cell_of (i:=0) e rfl;have a:ih (ov=A):=O (by rw[H];rfl);have b:d.cell? ⟨R,0,A⟩=T (ic p 0 c):=z;clear z e
  go_wp2_with fail
  exact⟨rfl,aD.of_below y,by rw[a];rfl⟩
 obtain⟨g,o,c,f,m,K,e,s,hg,U,V,X,d3,C,t,S⟩:=PR j;have z:=cell_of (i:=0) e rfl;obtain⟨a,D⟩:=J l.length;obtain⟨b,v⟩:=J x.k;obtain⟨p,E⟩:=J x.n;obtain⟨xs,F⟩:=J x.s;obtain⟨q,M⟩:=J x.l.length;have ba:a<=1000000:=by simp at Q;omega
 rw[<-D]at e z s t;rw[<-M]at d3 C t;rw[<-v]at U;rw[<-E]at V;rw[<-F]at X;obtain⟨r,e5,e6,e7⟩:=I8 208 118 4 underlying208 Hh (T ⟨g,o,A⟩) (a+1) c 1 Y s (λh=>by cases h);have bb:∀W,(Instr.sliceAt 208 (ic (T ⟨g,o,A⟩) (a+1) c) (T (I N 1)) A A).run jf W=.ok (ic r a (c-1)) W:=e5;have hd:=t.dropK (n:=1) Y e6 e7;have aa:ap (·<N0) d (ic r a (c-1)) 4 a (aX l K):=hd;have HD:=O aa;have HU:=O C;have HV:=O S;have H1:=O e;have SX:=O D;have P:=O (And.intro v (And.intro E F));have bc:=O M;have HC:=O s;have a3:((a+1:Nat):Int)≠0:=Y;have a4:(((a:Int)+1)==0)=false:=by simp;omega
 clear j Q hd aa t C S e D E F M e5 e6 e7 s
 by_cases hk:b=k
 ·have t1:(b !=k)=false:=by simpa using hk
  have M:ih (ov=T (x,l)):=O (by rw[H,nx,if_pos (by rw[<-v];exact hk)]);clear v hk;have j:=af d (ja #[I N b,I N p,jg xs,ic f q m] 118);have C:=jq d (ja #[I N b,I N p,jg xs,ic f q m] 118);rw[u]at C;obtain⟨t,D⟩:=J (d.alloc (ja #[I N b,I N p,jg xs,ic f q m] 118));rw[<-D]at j C;have aa:t.heap.size=B+2:=by rw[D];simp[u.out]
  have Q:=(j.block R (aw u)).trans H1;have ad:=(j.block B (aw u)).trans HX;have a5:=cell_of (i:=0) Q rfl;obtain⟨-,f0,al,E⟩:=bH (i:=0) (ic r a (c-1)) Q ar;have Y9:=(E.block (B+1) Y).trans C;have au:=(E.block B Y).trans ad;have a1:=O D;have F:=O j;have QZ:=O al;have S:=O au;have Sc:=O Y9;have s:=O E;have QM:=O aa;have bd:=u.out;clear D j Q ad al E Y9 au C aa
  go_upto_region 4 with fail
  rw[<-a1];clear U V X d3 z a1
  go_upto_region 5 with fail
  have C:(t.setCell ⟨R,0,A⟩ (ic r a (c-1))).heap.size=B+2:=by rw[s.size,QM]
  have E:∀j,j<B+1->j≠R->(t.setCell ⟨R,0,A⟩ (ic r a (c-1))).heap[j]?=d.heap[j]?:=λj e h2=>(s.block j h2).trans (F.block j (by rw[u];exact e))
  have Q:=O E;have Sf:ih (aD R w.heap.size w (t.setCell ⟨R,0,A⟩ (ic r a (c-1)))):=O ((aD.of_below (y.trans (F.mono y.size))).trans (⟨s.os,s.tape,s.output,jH s.size.symm,λk _ hk=>s.block k hk⟩:aD R t.heap.size t _) (by have:=y.size;have:=F.size;omega));obtain⟨D,aa⟩:=J (t.setCell ⟨R,0,A⟩ (ic r a (c-1)));rw[<-aa]at QZ S Sc Q Sf C⊢;clear aa a5 f0 E s F a3 a4;have E:=O C;clear C
  go_wp2_with (first|(refine jK rfl 118 _ rfl (B+1) rfl 118 #[I N b,I N p,jg xs,ic f q m] (0,0) _ Sc.out jY rfl eO ?_)|(refine jn rfl λ_ s=>jp 118 _ _ rfl B #[I N b,I N p,jg xs,ic f q m] rfl rfl 118 _ S.out eO rfl (by simp[jz]) (s _ _ ?_)))
  have C:=jv D B _ #[I N b,I N p,jg xs,ic f q m] _ _ S.out;refine jA (j7 rfl _ _ B 118 #[I N b,I N p,jg xs,ic f q m] (0,0) _ rfl C jY rfl eO) rfl ⟨?_,?_⟩
  ·refine Sf.trans (Dn R B D _) (by rw[SE];exact jh _)
  rw[M];have s:∀j,j<N0->(D.setRow B #[I N b,I N p,jg xs,ic f q m]).heap[j]?=d.heap[j]?:=λj F=>(jy _ _ _ _ Y).trans (Q j Y Y)
  refine⟨⟨_,by rw[P.1,P.2.1,P.2.2],?_⟩,r,c-1,K,?_,?_,?_⟩
  ·exact ao.keep s _ _ HU.out
  ·rw[<-SX]
   exact(jy _ _ _ _ Y).trans QZ
  ·rw[<-SX];exact HD.keep s
  exact ax.keep s _ _ HV.out
 have t1:(b !=k)=true:=by simpa using hk
 have M:ih (ov=A):=O (by rw[H,nx,if_neg (by rw[<-v];exact hk)]);clear v
 go_wp2_with fail
 exact⟨rfl,aD.of_below y,by rw[M];rfl⟩
def OV(N0 R:Nat)(w:ii)(o:Option (Int×List Val))(e:jG)(w':ii):Prop:=
 aD R w.heap.size w w'/\match o with
  |some r=>e=jl (I N r.1)/\RdV N0 w' R r.2
  |none=>e=.panicked bG
def IQ(N0 R:Nat)(w:ii)(o:Option (ByteArray×List Val))(e:jG)(w':ii):Prop:=
 aD R w.heap.size w w'/\match o with
  |some r=>e=jl (jg r.1)/\RdV N0 w' R r.2
  |none=>e=.panicked bG
def GD(N0 R:Nat)(w:ii)(o:Option (LBy×List Val))(e:jG)(w':ii):Prop:=
 aD R w.heap.size w w'/\match o with
  |some r=>e=jl (je (r.1.map v8).toArray)/\RdV N0 w' R r.2
  |none=>e=.panicked bG
def Gi(N0 R:Nat)(w:ii)(o:Option ((Int×LBy)×List Val))(e:jG)(w':ii):Prop:=
 aD R w.heap.size w w'/\match o with
  |some r=>(∃a,e=jl (je #[I N r.1.1,a])/\ap (λg=>w.heap.size<=g/\g<w'.heap.size) w' a 1 r.1.2.length (r.1.2.map v8))/\RdV N0 w' R r.2
  |none=>e=.panicked bG
def M4(N0 R:Nat)(w:ii)(o:Option (List Val×List Val))(e:jG)(w':ii):Prop:=
 aD R w.heap.size w w'/\match o with
  |some r=>(∃B a,e=jl (.func (.func 185) #[] #[jj (T ⟨B,0,A⟩)])/\w.heap.size<=B/\w'.heap[B]?=T (ja #[a] 109 (0,0))/\ao (·<N0) w' (vL r.1) a)/\RdV N0 w' R r.2
  |none=>e=.panicked bG
theorem Nx(k n:Int)(s:ByteArray)(a:jd)(W:ii):(Instr.field 118 (je #[I N k,I N n,jg s,a]) 1).run jf W=.ok (I N n) W:=by kernel_rfl
theorem Jc(k n:Int)(s:ByteArray)(a:jd)(W:ii):(Instr.field 118 (je #[I N k,I N n,jg s,a]) 2).run jf W=.ok (jg s) W:=by kernel_rfl
theorem De(k n:Int)(s:ByteArray)(a:jd)(W:ii):(Instr.field 118 (je #[I N k,I N n,jg s,a]) 3).run jf W=.ok a W:=by kernel_rfl
theorem fC(N0 R:Nat)(f:N0<=R)(l:List Val)(w:ii)(h:RdV N0 w R l)(g:l.length<=1000000):
 jo jf 126 #[jj (T ⟨R,0,A⟩)] w (OV N0 R w (rI l)):=by
 have i:=Nx;have a:=O (tM N0 R f 1 l w h g);unfold rI;obtain⟨o,b⟩:=J (nx 1 l);rw[<-b]at a⊢;clear b h
 go_enter func126,ntmps126
 go_wp2_with fail
 refine a.mono ?_;rintro e w' ⟨b,c⟩;have d:=O b;clear b a
 rcases o with _|r
 ·obtain rfl:e=.panicked bG:=c
  exact⟨rfl,d,rfl⟩
 obtain⟨⟨j,rfl,a⟩,b⟩:=c;obtain⟨k,m,rfl⟩:=a.form;have h:=O b;clear b a
 go_wp2_with fail
 go_ret;exact⟨d,rfl,h⟩
theorem Fp(N0 R:Nat)(f:N0<=R)(l:List Val)(w:ii)(h:RdV N0 w R l)(g:l.length<=1000000):
 jo jf 184 #[jj (T ⟨R,0,A⟩)] w (IQ N0 R w (rT l)):=by
 have i:=Jc;have a:=O (tM N0 R f 2 l w h g);unfold rT;obtain⟨o,b⟩:=J (nx 2 l);rw[<-b]at a⊢;clear b h
 go_enter func184,ntmps184
 go_wp2_with fail
 refine a.mono ?_;rintro e w' ⟨b,c⟩;have d:=O b;clear b a
 rcases o with _|r
 ·obtain rfl:e=.panicked bG:=c
  exact⟨rfl,d,rfl⟩
 obtain⟨⟨j,rfl,a⟩,b⟩:=c;obtain⟨k,m,rfl⟩:=a.form;have h:=O b;clear b a
 go_wp2_with fail
 go_ret;exact⟨d,rfl,h⟩
theorem GX{l:List Val}{r:Int×List Val}(h:rI l=T r):r.2.length<=l.length:=by
 unfold rI at h
 rcases l with _|⟨x,l⟩
 ·cases h
 rw[nx]at h
 split at h
 ·injection h with h;rw[<-h];simp
 cases h
def pr:Array jd:=(mz 32 (jb .u8 0)).toArray
theorem MD(g n c:Nat)(h:32<=n)(W:ii):(Instr.arrayAt 23 (ic (T ⟨g,0,A⟩) n c)).run jf W=.ok (jj (T ⟨g,0,A⟩)) W:=by
 have a:(underlying 23).run jf W=.ok (.array 32 5) W:=run_underlying ow W;simp[Instr.arrayAt,Sem.run_bind,a,Result.andThen,show ¬n<32 by omega]
theorem Hu{w:ii}{g n c:Nat}{l:LBy}(h:BytesAt w (ic (T ⟨g,0,A⟩) n c) l):w.rangeAt g 0 (l.map v8):=by
 obtain⟨p,o,e,-,-,b⟩:=h;injection e with i q r
 intro j v f;have d:j<l.length:=by have:=(nn.1 f).1;simpa using this
 obtain⟨s,t,a,b⟩:=b Y;rw[<-i]at a;injection a with a
 injection a with k m
 subst k;subst m;rw[b j d,<-f,ob,j3 d];simp[lo,d]
theorem BX(N0 R:Nat)(i:N0<=R)(l:List Val)(w:ii)(h:RdV N0 w R l)(P:l.length<=1000000):
 jo jf 127 #[jj (T ⟨R,0,A⟩)] w (GD N0 R w (rD l)):=by
 have a:=af w (ja pr 23);have b:=jq w (ja pr 23);have c:=h.below i a;obtain⟨B,d⟩:=J w.heap.size;obtain⟨q,e⟩:=J (w.alloc (ja pr 23));have Q:=h.lt;rw[<-e]at a b c;rw[<-d]at b Q;have g:=O b;have t:=O a;have u:=O d;have f:=O e;have j:=O (Fp N0 R i l q c P);unfold rD;obtain⟨o,k⟩:=J (rT l);rw[<-k]at j⊢;clear k h a b c e d
 go_enter func127,ntmps127
 go_upto_region 1 with fail
 rw[show w.alloc (ja aI 23)=q from f.symm,<-u];clear f
 go_wp2_with fail
 refine j.mono ?_;rintro e b ⟨a,v⟩;have c:=(a.block B (ji.1 g).1 Y).trans g;have d:aD R w.heap.size w b:=(aD.of_below t).trans a t.size;have m:=O c;have f:=O d;clear a j c d g
 rcases o with _|r
 ·obtain rfl:e=.panicked bG:=v
  exact⟨rfl,f,rfl⟩
 obtain⟨s,r⟩:=r;obtain⟨rfl,a⟩:=v;have x:=O a;clear a;obtain⟨n,c⟩:=J s.size
 by_cases d:n=32
 ·have g:ih (((T (s,r)).bind λr=>if r.1.size=32 then T (aK r.1,r.2)else A)=T (aK s,r)):=O (by rw[jm,if_pos (by rw[<-c];exact d)])
  have S:((s.size:Int)!=32)=false:=by rw[<-c,d];rfl
  have kc:=tI s;have kb:=rJ s b;have h:=p8 s b b.heap.size (jh _);have j:s.size=32:=by rw[<-c];exact d
  rw[j]at kb;have y:=(h.block B (ji.1 m).1).trans m;have z:=x.below i h;have C:=f.trans (aD.of_below h) f.size;have ka:=MD b.heap.size s.size (fL s b) Y;have D:=O y;have U:=O z;have V:=O C;have E:=O (Hu kb);have F:(aK s).length=32:=by rw[eA];exact j
  have p:=O F;obtain⟨a,H⟩:=J (aK s);rw[<-H]at E p g;have k:(jf.info? 23).map (·.size)=T (a.map v8).length:=by rw[jw,p];kernel_rfl
  have K:(jf.info? 23).map (·.size)=T (a.map v8).toArray.size:=by rw[jJ];exact k
  have W:=O k;have M:=O K;have X:ih (pr.size=(a.map v8).toArray.size):=O (by rw[show(a.map v8).toArray.size=(a.map v8).length from jJ ..,jw,p];rfl);clear c d kb h y z C F H k K m x f j
  go_wp2_with (first|(refine jn rfl λ_ h=>wp_load_mid 23 _ rfl b.heap.size 0 rfl (a.map v8) _ E.out ow rfl W (h _ _ ?_))|(refine jn rfl λ_ h=>jp 23 _ _ rfl B (a.map v8).toArray rfl rfl 23 pr D M X (dB a) (h _ _ ?_)))
  have h:=jv (dY s b) B _ (a.map v8).toArray _ _ D.out;refine jA (j7 rfl _ _ B 23 (a.map v8).toArray (0,0) _ rfl h ow rfl M) rfl ⟨?_,?_⟩
  ·exact V.trans (Dn R B (dY s b) _) (by rw[u];exact jh _)
  rw[g];exact⟨rfl,U.keep (jy _ _ _ _ Y) (λk hk=>jy _ _ _ _ Y)⟩
 have g:ih (((T (s,r)).bind λr=>if r.1.size=32 then T (aK r.1,r.2)else A)=A):=O (by rw[jm,if_neg (by rw[<-c];exact d)]);have S:((s.size:Int)!=32)=true:=by rw[<-c];simp;omega
 clear c d
 go_wp2_with fail
 exact⟨rfl,f,by rw[g];rfl⟩
theorem ap.of_bytes{D:Nat->Prop}{w:ii}{g n c:Nat}{l:LBy}(h:BytesAt w (ic (T ⟨g,0,A⟩) n c) l)(f:n=l.length)(i:D g):ap D w (ic (T ⟨g,0,A⟩) n c) 1 l.length (l.map v8):=by
 obtain⟨p,y,e,k,z,m⟩:=h;injection e with q B r
 refine⟨by simp,T ⟨g,0,A⟩,c,by rw[f],by rw[r];exact k,(λh=>by cases h),λs=>?_⟩;obtain⟨C,o,a,t⟩:=m s;rw[<-q]at a;injection a with a
 injection a with u x
 refine⟨g,0,rfl,i,λj v d=>?_⟩;have b:j<l.length:=by have:=(nn.1 d).1;simpa using this
 rw[u,x,t j b,<-d,ob,j3 b];simp[lo,b]
theorem ap.keepAt{D:Nat->Prop}{w w':ii}{g n c m sz:Nat}{xs:List jd}(h:ap D w (ic (T ⟨g,0,A⟩) n c) sz m xs)(hk:w'.heap[g]?=w.heap[g]?):ap D w' (ic (T ⟨g,0,A⟩) n c) sz m xs:=by
 obtain⟨i,p,k,e,l,q,r⟩:=h;refine⟨i,p,k,e,l,q,λs=>?_⟩;injection e with t B C
 obtain⟨b,o,f,u,v⟩:=r s;have d:=t.trans f;injection d with d
 injection d with x E
 refine⟨b,o,f,u,λj y z=>(bE (a:=⟨b,o+j,A⟩) ?_).trans (v j y z)⟩;show w'.heap[b]?=w.heap[b]?;rw[<-x];exact hk
theorem yu:(jf.info? 72).map (·.size)=T 2:=by kernel_rfl
theorem DN(N0 R:Nat)(j:N0<=R)(l:List Val)(w:ii)(h:RdV N0 w R l)(m:l.length<=1000000):
 jo jf 130 #[jj (T ⟨R,0,A⟩)] w (Gi N0 R w (rW l)):=by
 have c:=af w (ja #[I N 0,ic A 0 0] 72);have e:=jq w (ja #[I N 0,ic A 0 0] 72);have g:=h.below j c;obtain⟨B,k⟩:=J w.heap.size;obtain⟨W,p⟩:=J (w.alloc (ja #[I N 0,ic A 0 0] 72));have X:=h.lt;rw[<-p]at c e g;rw[<-k]at e X;have q:=O e;have x:=O c;have t:=O k;have u:=O p;have d:=O (fC N0 R j l W g m);have s:=O (fun(r:Int×List Val) (h:rI l=T r)=>GX h);obtain⟨ov,a⟩:=J (rW l);rw[<-a];unfold rW at a;obtain⟨o,f⟩:=J (rI l);rw[<-f]at d s a;have aa:ih (o=A->ov=A):=O (λh=>by rw[a,h];rfl);have v:ih (∀n r,o=T (n,r)->ov=(rT r).map λb=>((n,aK b.1),b.2)):=O (λn r h=>by rw[a,h];rfl);clear f h c e g p k a
 go_enter func130,ntmps130
 go_upto_region 1 with fail
 rw[<-u,<-t];clear u
 go_wp2_with fail
 refine d.mono ?_;rintro e y ⟨c,b⟩;have a:=(c.block B (ji.1 q).1 Y).trans q;have g:aD R w.heap.size w y:=(aD.of_below x).trans c x.size;have p:=O a;have k:=O g;clear c d a g q
 rcases o with _|r
 ·obtain rfl:e=.panicked bG:=b
  exact⟨rfl,k,by rw[aa rfl]⟩
 obtain⟨n,r⟩:=r;obtain⟨rfl,g⟩:=b;have a:r.length<=1000000:=ju (s _ rfl) m;have d:=O (Fp N0 R j r y g a);have u:=O (v n r rfl);dsimp only;obtain⟨o,f⟩:=J (rT r);rw[<-f]at d u;clear v;clear g f s m a
 go_wp2_with fail
 refine d.mono ?_;rintro e a ⟨c,b⟩;have q:=(c.block B (ji.1 p).1 Y).trans p;have s:aD R w.heap.size w a:=k.trans c k.size;have f:=O q;have m:=O s;clear c d q s p k
 rcases o with _|q
 ·obtain rfl:e=.panicked bG:=b
  exact⟨rfl,m,by rw[u];rfl⟩
 obtain⟨s,q⟩:=q;obtain⟨rfl,g⟩:=b;have kc:=tI s;have kb:=rJ s a;have d:=p8 s a a.heap.size (jh _);have k:(dY s a).heap.size=a.heap.size+1:=by unfold dY;exact Lib.bytesWorld_size a 5 s
 have z:=g.below j d;have C:=(d.block B (ji.1 f).1).trans f;have E:=m.trans (aD.of_below d) m.size;have F:B<a.heap.size:=(ji.1 f).1;obtain⟨⟨v0,c0⟩,f0,H,K⟩:=bH (i:=0) (I N n) C ar;have M:((dY s a).setCell ⟨B,0,A⟩ (I N n)).heap[B]?=T (ja #[I N n,ic A 0 0] 72 (0,0)):=H;obtain⟨⟨v1,c1⟩,f1,P,Q⟩:=bH (i:=1) (ic (T ⟨a,0,A⟩) s.size (fL s a)) M ar;have S:(((dY s a).setCell ⟨B,0,A⟩ (I N n)).setCell ⟨B,1,A⟩ (ic (T ⟨a,0,A⟩) s.size (fL s a))).heap[B]?=T (ja #[I N n,ic (T ⟨a,0,A⟩) s.size (fL s a)] 72 (0,0)):=P;have c:=O S;have RQ:=O z;have Qt:=O E;have YW:=O kb;have U:=O k;have p:=O K;have v:=O Q;have V:=O F;clear g kb d k z C E H M P S K Q F f m
 go_upto_region 2 with fail
 have d:∀k,k≠B->(((dY s a).setCell ⟨B,0,A⟩ (I N n)).setCell ⟨B,1,A⟩ (ic (T ⟨a,0,A⟩) s.size (fL s a))).heap[k]?=(dY s a).heap[k]?:=λk hk=>(v.block k hk).trans (p.block k hk)
 have f:(((dY s a).setCell ⟨B,0,A⟩ (I N n)).setCell ⟨B,1,A⟩ (ic (T ⟨a,0,A⟩) s.size (fL s a))).heap.size=a.heap.size+1:=by rw[v.size,p.size,U]
 have g:aD R B (dY s a) (((dY s a).setCell ⟨B,0,A⟩ (I N n)).setCell ⟨B,1,A⟩ (ic (T ⟨a,0,A⟩) s.size (fL s a))):=⟨rfl,rfl,rfl,by rw[f,U];exact jh _,λk hk _=>d k Y⟩;obtain⟨C,z⟩:=J (((dY s a).setCell ⟨B,0,A⟩ (I N n)).setCell ⟨B,1,A⟩ (ic (T ⟨a,0,A⟩) s.size (fL s a)));rw[<-z]at c d f g⊢;have m:=O d;have E:=O f;have F:=O g;clear d f g z c0 f0 c1 f1 p v kc
 go_wp2_with (first|(refine jK rfl 72 _ rfl B rfl 72 #[I N n,ic (T ⟨a,0,A⟩) s.size (fL s a)] (0,0) _ c.out underlying72 rfl yu ?_)|(refine jn rfl λ_ d=>jp 72 _ _ rfl B #[I N n,ic (T ⟨a,0,A⟩) s.size (fL s a)] rfl rfl 72 _ c.out yu rfl (by simp[jz]) (d _ _ ?_)))
 rw[du c];refine jA (j7 rfl _ _ B 72 #[I N n,ic (T ⟨a,0,A⟩) s.size (fL s a)] (0,0) _ rfl c underlying72 rfl yu) rfl ⟨?_,?_⟩
 ·exact Qt.trans F.out (by rw[t];exact jh _)
 rw[u];refine⟨⟨_,rfl,?_⟩,RQ.keep (m R Y) (λk hk=>m k Y)⟩;have h:=ap.of_bytes (D:=λg=>w.heap.size<=g/\g<C.heap.size) YW (eA s).symm ⟨by have:=V.out;have:=t.out;omega,by rw[E];omega⟩;have d:=ap.keepAt h (hk:=m a.heap.size (aw V));exact d
theorem wM(N0 R:Nat)(m:N0<=R)(l:List Val)(w:ii)(h:RdV N0 w R l)(y:l.length<=1000000):
 jo jf 128 #[jj (T ⟨R,0,A⟩)] w (M4 N0 R w (rL l)):=by
 have D:∀(fn:Fn) (first p:Array jd) (w:ii),(Instr.makeFunc fn first p).run jf w=.ok (.func fn first p) w:=λ_ _ _ _=>rfl
 have E:=h.lt;have F:=De;have a:=O (tM N0 R m 3 l w h y);unfold rL;obtain⟨o,b⟩:=J (nx 3 l);rw[<-b]at a⊢;clear b h
 go_enter func128,ntmps128
 go_wp2_with fail
 refine a.mono ?_;rintro e d ⟨b,q⟩;have c:=O b;clear b a
 rcases o with _|r
 ·obtain rfl:e=.panicked bG:=q
  exact⟨rfl,c,rfl⟩
 obtain⟨x,r⟩:=r;obtain⟨⟨H,rfl,h⟩,i⟩:=q;obtain⟨a,b,rfl⟩:=h.form;have f:=af d (ja #[ic a x.l.length b] 109);have t:=jq d (ja #[ic a x.l.length b] 109);have u:=i.below m f;have z:=i.lt;have v:=c.trans (aD.of_below f) c.size;have j:ao (·<N0) (d.alloc (ja #[ic a x.l.length b] 109)) x (ic a x.l.length b):=ao.keep (λg (k:g<N0)=>f.block g Y) _ _ h;have g:ao (·<N0) (d.alloc (ja #[ic a x.l.length b] 109)) (vL x.l) (ic a x.l.length b):=by
  obtain⟨k,n,s,B⟩:=x;unfold vL;rw[ao]at j⊢;exact j
 have k:=O u;have n:=O v;have s:=O g;have B:=O t;have C:=O c.size;clear h i f t u z v j g c
 go_wp2_with fail
 go_ret;exact⟨n,⟨_,_,rfl,C,B,s⟩,k⟩
section
variable {P:jM}
def WpF(P:jM)(fn:FuncId)(c:jN)(f:jE->Act->ii->Prop)(a:Act)(w:ii):Prop:=
 ∀(b:Frame) (k:List Item) (cs:List Frame),b.roundOf=A->b.fn=fn->∃e d w',f e d w'/\ArrivesIn (Machine.fenced P Fence.wide) P (lone (b.atR a (.code c::k)) cs w) b k cs e d w'
theorem ib{fn:FuncId}{c:jN}{d:jE->Act->ii->Prop}{a:Act}{w:ii}(h:c.wp P d a w):WpF P fn c d a w:=
 λb k cs e _=>(wpIn_wide (n:=0)).2 h b k cs e trivial (room_wide _)
theorem Ga{fn:FuncId}{x y:jN}{j:jE->Act->ii->Prop}{a:Act}{w:ii}(h:WpF P fn x (Exit.then (WpF P fn y j) j) a w):WpF P fn (.seq x y) j a w:=by
 intro b k cs m n;have c:(lone (b.atR a (.code (.seq x y)::k)) cs w).fenced P Fence.wide:=jU _ _;obtain⟨e,g,i,d,f⟩:=h b (.code y::k) cs m n
 cases e with
 |normal=>
  obtain⟨l,o,p,q,r⟩:=d b k cs m n;exact⟨l,o,p,q,.of_steps (.head c stepR_seq f) r⟩
 |exit o=>exact⟨_,g,i,d,.of_steps (.one c stepR_seq) (.pass (x:=.code y) rfl (λ_ _=>.inl ar) f)⟩
 |goto l=>exact⟨_,g,i,d,.of_steps (.one c stepR_seq) (.pass (x:=.code y) rfl (λ_ _=>.inl ar) f)⟩
 |ret=>exact⟨_,g,i,d,.of_steps (.one c stepR_seq) (.pass (x:=.code y) rfl (λ_ _=>.inl ar) f)⟩
 |panic p=>exact⟨_,g,i,d,.of_steps (.one c stepR_seq) (.pass (x:=.code y) rfl (λ_ _=>.inl ar) f)⟩
 |outgrown=>exact⟨_,g,i,d,.of_steps (.one c stepR_seq) (.pass (x:=.code y) rfl (λ_ _=>.inl ar) f)⟩
theorem FT{f:FuncId}{fn:Func}{c:jN}{args:Array jd}{w:ii}{R:jG->ii->Prop}(q:P.funcs[f]?=T fn)(v:fn.body=T c)
 (h:WpF P f c (bodyPostM Fence.wide 0 P fn R) {tmps:=args++jP (fn.ntmps-args.size) js,defers:=[]} w):jo P f args w R:=by
 refine(qm (n:=0)).1 ⟨trivial,λcs r=>?_⟩
 let b:Frame:={(default:Frame)with fn:=f,kind:=.normal,roundOf:=A}
 have x:Frame.enter P f args .normal=b.atR {tmps:=args++jP (fn.ntmps-args.size) js,defers:=[]} [.code c]:=by
  simp[Frame.enter,Frame.atR,q,v,b]
 obtain⟨e,a,w',d,g⟩:=h b [] cs rfl rfl;rw[<-x]at g
 cases e with
 |normal=>
  obtain⟨i,j,k,l,m,o,p⟩:=leaves_stepsInM a.defers .returning w' {b.atR a []with mode:=.returning} cs rfl rfl rfl q rfl trivial r d;exact⟨i,j,k,l,ComesIn.of_steps (StepsIn.trans g (.one (jU _ _) (stepR_end rfl))) m,o,p⟩
 |ret=>
  obtain⟨s,t⟩:=g.1 rfl;obtain⟨i,j,k,l,m,o,p⟩:=leaves_stepsInM a.defers .returning w' {b.atR a s with mode:=.returning} cs rfl rfl rfl q rfl trivial r d;exact⟨i,j,k,l,ComesIn.of_steps t m,o,p⟩
 |panic u=>
  obtain⟨s,t⟩:=g;obtain⟨i,j,k,l,m,o,p⟩:=leaves_stepsInM a.defers (.panicking u) w' {b.atR a s with mode:=.panicking u} cs rfl rfl rfl q rfl trivial r d;exact⟨i,j,k,l,ComesIn.of_steps t m,o,p⟩
 |exit i=>exact d.elim
 |goto l=>exact d.elim
 |outgrown=>exact⟨.outgrown,w',b,d,g.resolve_left (by simp[b]),rfl,trivial⟩
def IJ(P:jM)(l:Nat)(R:jG->ii->Prop):jE->Act->ii->Prop
 | .panic b,a,w=>a.defers=[]/\R (.panicked b) w
 |e,a,w=>roundPost P l R e a w
theorem Oo{n:Nat}{l:Nat}{f:FuncId}{fd:Func}{tmps:Array jd}{assign body:jN}{w:ii}{R:jG->ii->Prop}(C:P.funcs[f]?=T fd)
 (h:assign.wpIn (Fence.wide.inRound l) n P (Exit.then (λp y=>∃x,(Instr.beginRound l).run P y=.ok () x/\body.wpIn (Fence.wide.inRound l) n P (IJ P l R) p x) (λ_ _ _=>False))
  {tmps:=tmps,defers:=[]} w):
 RoundIn Fence.wide n P l f tmps assign body w R:=by
 refine⟨trivial,λc cs D=>?_⟩
 let b:Frame:={(default:Frame)with fn:=f,kind:=.normal,roundOf:=T l}
 have E:Frame.round l f tmps assign body .normal=b.atR {tmps:=tmps,defers:=[]} [.code assign,.beginRound,.code body]:=by
  simp[Frame.round,Frame.atR,b]
 have d:(Fence.wide.inRound l).room ((c::cs).length+1+n):=D;obtain⟨e,p,y,k,m⟩:=h b [.beginRound,.code body] (c::cs) rfl trivial d;rw[<-E]at m
 cases e with
 |normal=>
  obtain⟨x,F,H⟩:=k;have q:StepsIn (Machine.fenced P (Fence.wide.inRound l)) P (lone (b.atR p [.beginRound,.code body]) (c::cs) y) (lone (b.atR p [.code body]) (c::cs) x):=
   .one (fenced_calm (fr:=b.atR p [.beginRound,.code body]) trivial d rfl) (stepR_beginRound rfl F)
  obtain⟨K,r,z,o,s⟩:=H b [] (c::cs) rfl trivial d
  cases K with
  |normal=>
   obtain⟨v,g,i,a⟩:=o;exact⟨jl v,g,a,(StepsIn.trans m q).trans (StepsIn.trans s (.one (fenced_calm (fr:=b.atR r []) trivial d rfl) (stepR_round_end rfl rfl i)))⟩
  |ret=>
   obtain⟨v,g,i,a⟩:=o;obtain⟨u,j⟩:=s.2 rfl;exact⟨jl v,g,a,(StepsIn.trans m q).trans (StepsIn.trans j (.one (fenced_calm (fr:=b.atR r (.code .ret::u)) trivial d rfl) (stepR_round_ret rfl rfl i)))⟩
  |exit B=>
   obtain⟨v,g,i,a⟩:=o;obtain⟨u,hk,j⟩:=s.2 rfl rfl;exact⟨jl v,g,a,(StepsIn.trans m q).trans (StepsIn.trans j (.one (fenced_calm (fr:=b.atR r (.code (.exit B)::u)) trivial d rfl) (stepR_round_exit rfl rfl hk i)))⟩
  |goto t=>
   obtain⟨v,g,i,a⟩:=o;obtain⟨u,hk,j⟩:=s.2 rfl rfl;exact⟨jl v,g,a,(StepsIn.trans m q).trans (StepsIn.trans j (.one (fenced_calm (fr:=b.atR r (.code (.goto t)::u)) trivial d rfl) (stepR_round_goto rfl rfl hk i)))⟩
  |panic g=>
   obtain⟨i,a⟩:=o;obtain⟨u,j⟩:=s;have v:({b.atR r u with mode:=.panicking g}:Frame).leaving P z (.panicked g):=⟨rfl,i,fd,C⟩;exact⟨.panicked g,z,a,(StepsIn.trans m q).trans (StepsIn.trans j (.one (jU _ _) (step_leave_panicked v)))⟩
  |outgrown=>exact o.elim
 |exit B=>exact k.elim
 |goto l=>exact k.elim
 |ret=>exact k.elim
 |panic g=>exact k.elim
 |outgrown=>exact k.elim
theorem Ib{u:FuncId}{g:lw}{j:Array Tmp}{assign body:jN}{x:jE->Act->ii->Prop}{a:Act}{w:ii}
 (h:∃(l:Nat) (i:List Deferred) (m:ii) (d:Deferred) (o:ii) (f:FuncId) (args:Array jd) (p:ii),
  (Instr.enterLoop u a.tmps j assign body A).run P w=.ok (l,i) m/\
  (resolve a.eval (rangeCall g l) 0).run P m=.ok d o/\
  (invoke d.target d.args).run P o=.ok (.enter f args) p/\
  jo P f args p (rangePost Fence.wide 0 P l x {a with defers:=i++a.defers})):
 WpF P u (.rangeFunc g j assign body) x a w:=by
 intro b k cs y F;obtain⟨l,i,m,d,o,f,args,p,he,H,K,M⟩:=h;have Q:(Instr.enterLoop b.fn a.tmps j assign body b.roundOf).run P w=.ok (l,i) m:=by rw[y,F];exact he
 have q:=stepR_rangeFunc (P:=P) (b:=b) (a:=a) (k:=k) (cs:=cs) (w:=w) Q H K;obtain⟨e,R,fr,r,s,aa,z⟩:=((qm (n:=0)).2 M).2 (b.atR {a with defers:=i++a.defers} (.inRangeFunc l::k)::cs) (room_wide _)
 cases e with
 |outgrown=>
  obtain⟨c,v,t⟩:=r;exact⟨.outgrown,c,v,t,.inr (Outgrown.of_steps (.one q) s)⟩
 |returned v=>
  obtain⟨B,C,S,D⟩:=r;have E:StepsIn (Machine.fenced P Fence.wide) P (lone (b.atR a (.code (.rangeFunc g j assign body)::k)) cs w) (lone (b.atR {a with defers:=i++a.defers} ((B.map Item.code).toList++k)) cs C):=by
   refine .head (jU _ _) q (StepsIn.trans s (.head (jU _ _) ?_ (.one (jU _ _) (stepR_endRangeFunc S))));rw[<-finish_atR_inRangeFunc l v];exact step_leave_returned z
  rcases B with _|c
  ·exact⟨.normal,_,C,D,E⟩
  obtain⟨U,V,W,t,X⟩:=D b k cs y trivial (room_wide _);exact⟨U,V,W,t,.of_steps E X⟩
 |panicked c=>
  refine⟨.panic c,_,R,r,.inRangeFunc l::k,.head (jU _ _) q (StepsIn.trans s (.one (jU _ _) ?_))⟩;rw[<-Frame.raise_atR];exact step_leave_panicked z
theorem vM{fn:FuncId}{i:Nat}{c:jN}{u:jE->Act->ii->Prop}{a:Act}{w:ii}(h:WpF P fn c (Exit.inBlock i u) a w):WpF P fn (.block i c) u a w:=by
 intro b k cs v x;have d:(lone (b.atR a (.code (.block i c)::k)) cs w).fenced P Fence.wide:=jU _ _;obtain⟨e,j,m,f,g⟩:=h b (.inBlock i::k) cs v x
 cases e with
 |normal=>exact⟨.normal,j,m,f,.head d j0 (StepsIn.trans g (.one (jU _ _) stepR_inBlock))⟩
 |exit n=>
  by_cases l:n=i
  ·simp only[Exit.inBlock,l,if_true]at f
   exact⟨.normal,j,m,f,.head d j0 (g.1 k (by simp[exitTo,l]))⟩
  simp only[Exit.inBlock,l,if_false]at f;have this:(i==n)=false:=by simp;exact λh=>l h.symm
  have o:exitTo n (.inBlock i::k)=exitTo n k:=by simp[exitTo,this]
  exact⟨.exit n,j,m,f,λp hk=>.head d j0 (g.1 p (by rw[o];exact hk)),
   λq hk=>let⟨r,s,t⟩:=g.2 q (by rw[o];exact hk);⟨r,s,.head d j0 t⟩⟩
 |goto l=>
  have o:gotoIn l (.inBlock i::k)=gotoIn l k:=by simp[gotoIn]
  exact⟨_,j,m,f,λp hk=>.head d j0 (g.1 p (by rw[o];exact hk)),
   λq hk=>let⟨r,s,t⟩:=g.2 q (by rw[o];exact hk);⟨r,s,.head d j0 t⟩⟩
 |ret=>exact⟨_,j,m,f,.of_steps (.one d j0) g⟩
 |panic o=>exact⟨_,j,m,f,.of_steps (.one d j0) g⟩
 |outgrown=>exact⟨_,j,m,f,.of_steps (.one d j0) g⟩
structure dl(B0:Nat)(a B:ii):Prop where
 os:B.os=a.os
 tape:B.tape=a.tape
 output:B.output=a.output
 size:a.heap.size<=B.heap.size
 block:∀k,k<a.heap.size->(B.heap[k]?=a.heap[k]?\/(B0<=k/\∃o:Obj,a.heap[k]?=T o/\o.isCells=false))
theorem dl.alloc(B0:Nat)(a:ii)(o:Obj):dl B0 a (a.alloc o):=⟨rfl,rfl,rfl,by simp,λk hk=>.inl (o4 _ _ _ hk)⟩
theorem dl.ofBelow{B0:Nat}{a B:ii}(h:jk a a B):dl B0 a B:=⟨h.os,h.tape,h.output,h.size,λk hk=>.inl (h.block k hk)⟩
theorem dl.putObj{B0:Nat}{a:ii}{l:Nat}{o:Obj}(b:Obj)(c:a.heap[l]?=T o)(d:o.isCells=false)(f:B0<=l):dl B0 a (a.putObj l b):=by
 refine⟨rfl,rfl,rfl,by simp[qd],λk hk=>?_⟩
 by_cases e:k=l
 ·subst e;exact .inr ⟨f,o,c,d⟩
 exact .inl (lr e)
theorem dl.cells{B0:Nat}{a B:ii}(h:dl B0 a B){k:Nat}{c:Array jd}{t:jB}{f:Nat×Nat}(hk:a.heap[k]?=T (ja c t f)):B.heap[k]?=T (ja c t f):=by
 rcases h.block k (ji.1 hk).1 with e|⟨_,o,b,d⟩
 ·exact e.trans hk
 rw[hk]at b;cases b;cases d
theorem dl.low{B0 k:Nat}{a B:ii}(h:dl B0 a B)(hk:k<a.heap.size)(b:k<B0):B.heap[k]?=a.heap[k]?:=by
 rcases h.block k hk with e|⟨c,_⟩
 ·exact e
 omega
def l8{β:Type}(B0:Nat)(a:β->ii->Prop):Prop:=∀s b B,a s b->dl B0 b B->a s B
def zZ{α:Type}(P:jM)(g:Nat)(lb:Array jd)(encs:α->Array jd)(n₀:Nat)(S:List α->Prop)(h:List α->List jZ->Prop)(V:List α->ii->Prop)(w:ii):Prop:=
 ∀(l:Nat) (a:List α->ii->Prop) (f:List jZ->ii->Prop) (W:ii),jk w w W->l8 W.heap.size a->
  (∀b x d,a b d->V (b++[x]) d->YieldAt Fence.wide 0 P l (encs x) d λe B=>
   (e=jl (.bool true)/\a (b++[x]) B/\jk n₀ d B)\/(∃c,e=.panicked c/\f c B))->
  a [] W->
  jo P g (#[.func (.yield l) #[] #[]]++lb) W λe B=>((∃v,e=jl v)/\∃xs,S xs/\a xs B)\/∃c,e=.panicked c/\(f c B\/∃b,h b c/\a b B)
def Lw{α:Type}(B0 n₀:Nat)(c:List α->ii->Prop)(d:List jZ->ii->Prop)(xs:List α)(b:ii):jE->Act->ii->Prop
 | .normal,_,B=>(mb B0 b B/\jk n₀ b B)/\c xs B
 | .panic e,a,B=>a.defers=[]/\mb B0 b B/\d e B
 |_,_,_=>False
theorem vX{α:Type}{u:FuncId}{fd:Func}(Wm:P.funcs[u]?=T fd){g:lw}{y:Array Tmp}{assign body:jN}{z:jE->Act->ii->Prop}{a:Act}{w:ii}
 {gf:Nat} {lb:Array jd} (hg:a.eval g=.func (.func gf) #[] lb) (eg:∀args w,(callFunc gf args).run P w=.ok (.enter gf args) w)
 {encs:α->Array jd} {n₀:Nat} {S:List α->Prop} {M:List α->List jZ->Prop} {V:List α->ii->Prop} (TQ:zZ P gf lb encs n₀ S M V w)
 (UF:n₀<=w.heap.size) (WP:∀x,(encs x).size=y.size) (hV:l8 w.heap.size V)
 (f:List α->ii->Prop) (C:List jZ->ii->Prop) (m:l8 w.heap.size f) (h0:f [] w)
 (Q:Array jd->α->Array jd)
 (aa:∀(l:Nat) (x:α) (b:ii) (K:Act->ii->Prop),K {tmps:=Q a.tmps x,defers:=[]} b->
  assign.wpIn (Fence.wide.inRound l) 0 P (Exit.then K (λ_ _ _=>False)) {tmps:=(y.zip (encs x)).foldl (λt (p,v)=>t.setIfInBounds p v) a.tmps,defers:=[]} b)
 (ad:∀(l:Nat) (i:List α) (x:α) (b:ii),f i b->V (i++[x]) b->w.heap.size<=b.heap.size->(∃r,b.heap[l]?=T (.loop r))->
  body.wpIn (Fence.wide.inRound l) 0 P (Lw w.heap.size n₀ f C (i++[x]) b) {tmps:=Q a.tmps x,defers:=[]} b)
 (al:∀(D:Nat) (xs:List α) (W:ii),w.heap.size<=D->S xs->f xs W->W.heap[D]?=T (.deferred (T []))->z .normal {a with defers:={target:=.collected D,args:=#[]}::a.defers} W)
 (K:∀(D:Nat) (j:List jZ) (W:ii),w.heap.size<=D->(C j W\/∃i,M i j/\f i W)->W.heap[D]?=T (.deferred (T []))->z (.panic j) {a with defers:={target:=.collected D,args:=#[]}::a.defers} W):
 WpF P u (.rangeFunc g y assign body) z a w:=by
 refine Ib ?_;obtain⟨c,l⟩:∃c:LoopState->Option jN->Loop,c=λst pe=>{state:=st,pending:=pe,fn:=u,tmps:=a.tmps,params:=y,assign,body,defers:=w.heap.size}:=⟨_,rfl⟩
 obtain⟨d,n⟩:∃d,(w.alloc (.deferred (T []))).alloc (.loop (c .ready A))=d:=⟨_,rfl⟩;have bd:d.heap.size=w.heap.size+2:=by rw[<-n];simp
 have au:d.heap[w.heap.size+1]?=T (.loop (c .ready A)):=by
  rw[<-n];have:=jq (w.alloc (.deferred (T []))) (.loop (c .ready A));rwa [jS]at this
 have a1:d.heap[w.heap.size]?=T (.deferred (T [])):=by
  rw[<-n];exact(o4 _ _ _ ar).trans (jq w _)
 have a2:f [] d:=by rw[<-n];exact m _ _ _ (m _ _ _ h0 (dl.alloc _ _ _)) (dl.alloc _ _ _)
 have a3:jk w w d:=by
  rw[<-n];exact(((Below.refl _ w).alloc (jh _) _).alloc ar _)
 let D (W:ii):Prop:=W.heap[w.heap.size+1]?=T (.loop (c .ready A))/\W.heap[w.heap.size]?=T (.deferred (T []))
 have a4:l8 d.heap.size (fun(_:List α) W=>D W):=by
  rintro s b B ⟨h,k⟩ e;have E:=(ji.1 h).1;exact⟨(e.low E Y).trans h,(e.low Y Y).trans k⟩
 have up:∀{β:Type} {f:β->ii->Prop},l8 w.heap.size f->l8 d.heap.size f:=by
  intro β f h s b B o e;refine h s b B o ⟨e.os,e.tape,e.output,e.size,λk hk=>?_⟩
  rcases e.block k hk with h|⟨h,p⟩
  ·exact .inl h
  exact .inr ⟨by omega,p⟩
 refine⟨w.heap.size+1,[{target:=.collected w.heap.size,args:=#[]}],d,{target:=.fn (.func gf) lb,args:=#[.func (.yield (w.heap.size+1)) #[] #[]]},d,gf,
  #[.func (.yield (w.heap.size+1)) #[] #[]]++lb,d,?_,?_,?_,?_⟩
 ·rw[<-n,l];exact run_enterLoop_outer _ _ _ _ _
 ·simp only[resolve,hg]
  simp[go_sem]
 ·simp[invoke,go_sem,eg]
 refine(TQ (w.heap.size+1) (λi W=>f i W/\D W) (λj W=>C j W/\W.heap[w.heap.size]?=T (.deferred (T []))) d a3
  (λs b B h e=>⟨up m s b B h.1 e,a4 s b B h.2 e⟩) ?_ ⟨a2,au,a1⟩).mono ?_
 ·
  rintro i x W ⟨k,h,hk⟩ a5;have E:w.heap.size+1<W.heap.size:=(ji.1 h).1;have R:=run_yield (P:=P) (args:=encs x) h (by rw[l];exact WP x);rw[l]at R;refine⟨u,_,assign,body,R,Oo Wm (aa _ x W _ ?_)⟩;refine⟨_,run_beginRound h (by rw[l]),?_⟩;have s:(W.putObj (w.heap.size+1) (.loop {c .ready A with state:=.busy})).heap[w.heap.size+1]?=T (.loop {c .ready A with state:=.busy}):=qx E;have B:(W.putObj (w.heap.size+1) (.loop {c .ready A with state:=.busy})).heap[w.heap.size]?=T (.deferred (T [])):=(lr Y).trans hk;have U:dl w.heap.size W (W.putObj (w.heap.size+1) (.loop {c .ready A with state:=.busy})):=dl.putObj _ h rfl Y;refine wpIn_mono (ad _ i x _ (m _ _ _ k U) (hV _ _ _ a5 U) (by simp[qd];omega) ⟨_,s⟩) ?_;obtain⟨q,X⟩:∃q,W.putObj (w.heap.size+1) (.loop {c .ready A with state:=.busy})=q:=⟨_,rfl⟩;have ba:jk n₀ W q:=by rw[<-X];exact ie Y
  rw[X]at s B⊢;have bb:∀(b:ii),(mb w.heap.size q b/\jk n₀ q b)->
   (Instr.endRound (w.heap.size+1) A).run P b=.ok (.bool true) (b.putObj (w.heap.size+1) (.loop (c .ready A)))/\
   dl w.heap.size b (b.putObj (w.heap.size+1) (.loop (c .ready A)))/\
   D (b.putObj (w.heap.size+1) (.loop (c .ready A)))/\
   jk n₀ W (b.putObj (w.heap.size+1) (.loop (c .ready A))):=by
   rintro b ⟨o,F⟩;have e:=o.same _ _ Y s rfl;have r:=run_endRound (P:=P) A e;rw[l]at r⊢;refine⟨r,dl.putObj _ e rfl Y,⟨?_,(lr Y).trans (o.same _ _ (jh _) B rfl)⟩,(ba.trans F).trans (ie Y)⟩;rw[l];exact qx (ji.1 e).1
  rintro e bf b p
  cases e with
  |normal=>
   obtain⟨o,H⟩:=p;obtain⟨r,T5,F,bc⟩:=bb b o;exact⟨_,_,r,.inl ⟨rfl,⟨m _ _ _ H T5,F⟩,bc⟩⟩
  |ret=>exact p.elim
  |exit F=>exact p.elim
  |goto t=>exact p.elim
  |panic j=>
   obtain⟨r,o,H⟩:=p;exact⟨r,.inr ⟨j,rfl,H,o.same _ _ (jh _) B rfl⟩⟩
  |outgrown=>exact p.elim
 
 rintro e p (⟨⟨v,rfl⟩,xs,b,k,h,hk⟩|⟨j,rfl,(⟨k,hk⟩|⟨i,o,k,h,hk⟩)⟩)
 ·exact⟨A,_,by have:=run_endLoop (P:=P) h (by rw[l];simp);rw[l]at this;exact this,al _ xs _ (jh _) b (m _ _ _ k (dl.putObj _ h rfl Y)) ((lr Y).trans hk)⟩
 ·exact K _ j _ (jh _) (.inl k) hk
 exact K _ j _ (jh _) (.inr ⟨i,o,k⟩) hk
def marksOf(Ds:List Nat):List Deferred:=Ds.map λD=>{target:=.collected D,args:=#[]}
structure M6(Ds:List Nat)(w w':ii):Prop where
 os:w'.os=w.os
 tape:w'.tape=w.tape
 output:w'.output=w.output
 size:w'.heap.size=w.heap.size
 block:∀k,k∉Ds->w'.heap[k]?=w.heap[k]?
theorem uT{fn:Func}{tmps:Array jd}{R:jG->ii->Prop}{c:FrameMode}(d:c≠.run):∀(Ds:List Nat) (W:ii),Ds.Nodup->(∀D∈Ds,W.heap[D]?=T (.deferred (T [])))->
 (∀b,M6 Ds W b->LeavesIn Fence.wide 0 P fn tmps R [] c b)->LeavesInM Fence.wide 0 P fn tmps R (marksOf Ds) c W
 |[],W,_,_,h=>h W ⟨rfl,rfl,rfl,rfl,λ_ _=>rfl⟩
 |D::Ds,W,f,g,h=>by
  have j:=g D (qe ..);refine⟨d,.inl ⟨D,_,rfl,run_takeDeferred j,uT d Ds _ (j4.1 f).2 (λE i=>?_) (λb a=>h b ?_)⟩⟩
  ·have b:E≠D:=λe=>(j4.1 f).1 (e▸i)
   exact(lr b).trans (g E (qy _ i))
  refine⟨a.os,a.tape,a.output,a.size.trans (by simp[qd]),λk hk=>?_⟩;rw[jC,not_or]at hk;exact(a.block k hk.2).trans (lr hk.1)
end
section
attribute [local go_sem] Oper.semAt_some
def VIt(N0 n₀:Nat)(l:List Val)(xs:List (Nat×Val))(W:ii):Prop:=
 N0<=W.heap.size/\(∃r,l=xs.map (·.2)++r)/\∀a x,xs=a++[x]->x.2.k=3/\n₀<=x.1/\RdV N0 W x.1 x.2.l
theorem ya{B0 N0 n₀:Nat}(h:N0<=B0)(l:List Val):l8 B0 (VIt N0 n₀ l):=by
 rintro xs n B ⟨g,i,j⟩ c;refine⟨ju g c.size,i,λm x e=>?_⟩;obtain⟨a,b,d⟩:=j m x e;refine⟨a,b,d.keep ?_ (λk f=>c.low Y Y)⟩;obtain⟨p,k,o,f,-⟩:=d;exact(c.cells f).trans f.symm
theorem ax.atI{D:Nat->Prop}{w:ii}:∀{l:List Val} {a:List jd} {i:Nat} {x:Val},ax D w l a->l[i]?=T x->∃b,a[i]?=T b/\ao D w x b
 |[],a,i,x,h,c=>by simp at c
 |y::l,a,i,x,h,c=>by
  rw[ax]at h;obtain⟨b,k,rfl,d,f⟩:=h
  rcases i with _|i
  ·have e:y=x:=by simpa using c
   subst e;exact⟨b,rfl,d⟩
  obtain⟨e,g,j⟩:=f.atI (i:=i) (by simpa using c);exact⟨e,by simpa using g,j⟩
theorem vx{N0 n₀ m₀:Nat}(o:N0<=n₀)(l:List Val)(hl:l.length<=1000000)(B:Nat)(M:jd)(w:ii)(q:n₀<=w.heap.size)(a1:m₀<=w.heap.size)(h:w.heap[B]?=T (ja #[M] 109 (0,0)))(s:ao (·<N0) w (vL l) M):
 zZ jf 185 #[jj (T ⟨B,0,A⟩)] (λx:Nat×Val=>#[jj (T ⟨x.1,0,A⟩)]) n₀
  (λxs=>xs.map (·.2)=l/\∀v∈l,v.k=3) (λd P=>P=bG/\∃v r,l=d.map (·.2)++v::r/\v.k≠3) (VIt N0 m₀ l) w:=by
 intro lp QC Jp W f r y z;have C:=(ji.1 h).1;have j:=(f.block B C).trans h;have Q:ao (·<N0) W (vL l) M:=ao.keep (λg (R:g<N0)=>f.block g Y) _ _ s;have a4:n₀<=W.heap.size:=ju q f.size;have a5:m₀<=W.heap.size:=ju a1 f.size;unfold vL at Q;rw[ao]at Q;obtain⟨us,k,t⟩:=Q;obtain⟨-,p,c,rfl,E,F,e⟩:=id k;obtain⟨b,m⟩:=J l.length;rw[<-m]at k j e E hl;have c0:=cell_of (i:=0) j rfl;have WB:=O e;have HV:=O t;have WJ:=O m;have u:=O o;have HJ:=O r;have D:=O y;have H0:=O z;clear h s q e t m r y z j k o f E F C;refine(qm (n:=0)).1 ?_;refine callsIn_of_wp func185 rfl trivial ?_ rfl;simp only[ntmps185,jJ,pa,qz,Nat.reduceAdd,Nat.reduceSub,qA,qB,qC,qD,oi,jW]
 gi_wp2_with fail
 gi_loopw [8] (λs wr=>W.heap.size<=wr.heap.size/\∃(i:Nat) (d:List (Nat×Val)),s=I N i/\i<=b/\ih (d.map (·.2)=l.take i)/\ih (∀v∈l.take i,v.k=3)/\ih (jk n₀ W wr)/\ih (QC d wr)) (λs _=>(b-km s).toNat)
 case atStart=>exact⟨jh _,0,[],rfl,by omega,O rfl,O (λv h=>by simp at h),O (Below.refl _ _),H0⟩
 obtain⟨ba,i,d,rfl,hi,S,HK,C,U⟩:=hrel
 by_cases a2:i<b
 case neg=>
  obtain rfl:b=i:=Y;have hd:decide ((b:Int)<(b:Int))=false:=by simp
  have Q3:decide (b<b)=false:=by simp
  have f:ih (l.take b=l):=O (qE (by rw[WJ];exact jh _));clear D c0
  gi_wp2
  refine bodyPost_end (results_none rfl _ _ _) rfl ?_;exact .inl ⟨⟨_,rfl⟩,d,⟨by rw[S,f],λv h=>HK v (by rw[f];exact h)⟩,U⟩
 have hd:=aj ((i:Int)<(b:Int));have Q3:=aj (i<b);obtain⟨g,o,rfl,R,e⟩:=WB Y;have y:i<l.length:=by rw[<-WJ];exact a2
 obtain⟨x,s⟩:=J (l[i]);have z:l[i]?=T x:=by rw[s];exact j3 y
 obtain⟨xu,K,E⟩:=ax.atI HV z;obtain⟨f,k,rfl⟩:=E.form;have r:∀j v,(eo x (ic f x.l.length k))[j]?=T v->j<4->wr.cell? ⟨g,o+(i*4+j),A⟩=T v:=λj v hj h4=>by
  have m:=e (i*4+j) v ((oz l us i j x _ z K h4).trans hj);exact(bE (a:=⟨g,o+(i*4+j),A⟩) (C.block g (aw u))).trans m
 have V:=r 0 _ rfl L;have X:=r 1 _ rfl L;have d2:=r 2 _ rfl L;have d3:=r 3 _ rfl L;have aa:ih (ao (·<N0) wr x (ic f x.l.length k)):=O (ao.keep (λg (R:g<N0)=>C.block g (aw u)) _ _ E);have Ut:ih (l.take (i+1)=l.take i++[x]):=O (by rw[s];exact List.take_succ_eq_append_getElem y);have a3:ih (l=l.take i++x::l.drop (i+1)):=O (by rw[s];simp);obtain⟨m,F⟩:=J x.k;obtain⟨xn,U8⟩:=J x.n;obtain⟨xs,R9⟩:=J x.s;obtain⟨q,H⟩:=J x.l.length;rw[<-F]at V;rw[<-U8]at X;rw[<-R9]at d2;rw[<-H]at d3 aa;have bb:=O H;have ad:=O F;simp only[<-Nat.add_assoc,Nat.add_zero]at V X d2 d3;clear r e z K E s F U8 R9 H y;have e:=af wr (ja #[I N m,I N xn,jg xs,ic f q k] 118);have s:=jq wr (ja #[I N m,I N xn,jg xs,ic f q k] 118);obtain⟨E,F⟩:=J (wr.alloc (ja #[I N m,I N xn,jg xs,ic f q k] 118));obtain⟨y,H⟩:=J wr.heap.size;rw[<-F]at e s;rw[<-H]at s;have e3:=cell_of (i:=3) s rfl;have e0:=cell_of (i:=0) s rfl;have Q7:=O (HJ _ _ _ U.out (dl.ofBelow (B0:=W.heap.size) e));have Qj:=O (C.trans (e.mono Y));have al:ih (ao (·<N0) E x (ic f q k)):=O (ao.keep (λg (R:g<N0)=>e.block g (aw u)) _ _ aa.out);have K:=O F;have r:=O H;have au:E.heap.size=y+1:=by rw[F,H];simp
 have z:=O au;clear e s F H au U C aa
 by_cases s:m=3
 ·have t1:(m !=3)=false:=by simpa using s
  have SC:=O s;clear s;have F:=af E (ja #[ic f q k] 208);have H:=RdV.new (N0:=N0) (l:=x.l) (x:=x) rfl al (by have:=z.out;have:=u.out;have:=r.out;omega);obtain⟨W2,C⟩:=J (E.alloc (ja #[ic f q k] 208));rw[<-C]at F;rw[<-C,z]at H;have Sd:=O (HJ _ _ _ Q7.out (dl.ofBelow (B0:=W.heap.size) F));have Qk:=O (Qj.trans (F.mono (dS z r)));have U:W2.heap.size=y+2:=by rw[C];simp[z.out]
  have Rr:ih (∀v∈l.take (i+1),v.k=3):=O (by
   intro v t;rw[Ut]at t
   rcases qf.1 t with h|h
   ·exact HK v h
   have:v=x:=by simpa using h
   rw[this,<-ad];exact SC)
  have T9:ih ((d++[(y+1,x)]).map (·.2)=l.take (i+1)):=O (by rw[j5,S,Ut];rfl);have au:=D d (y+1,x) W2 Sd (by
   refine⟨by rw[U];have:=u.out;have:=r.out;omega,⟨l.drop (i+1),by rw[T9,List.take_append_drop]⟩,λaa x' e=>?_⟩;obtain⟨-,h⟩:=List.append_inj' e rfl;injection h with h
   rw[<-h];exact⟨by rw[<-ad];exact SC,by show m₀<=y+1;have:=r.out;omega,H⟩)
  obtain⟨fn,tmps,assign,body,hy,h⟩:=au;have HR:=O h;have aa:=O C;have QM:=O U;clear F H C U h D Q7 Qj al
  gi_upto_region 3 with fail
  rw[<-K,<-r]
  gi_upto_region 6 with fail
  rw[<-aa,z];clear K aa V X d2 d3 e3 e0
  gi_wp2_with fail
  refine⟨rfl,HR.mono ?_⟩;rintro e H (⟨rfl,h,C⟩|⟨P,rfl,U⟩)
  ·have Zy:=O h
   have F:=O (Qk.trans C);have aa:W.heap.size<=H.heap.size:=F.size;clear HR h C Sd Qk hy
   gi_wp2_with fail
   exact⟨⟨aa,i+1,_,by go_num,by omega,T9,Rr,F,Zy⟩,by simp only[km];omega⟩
  exact⟨rfl,.inr ⟨P,rfl,.inl U⟩⟩
 have t1:(m !=3)=true:=by simpa using s
 have e:ih (x.k≠3):=O (by rw[<-ad];exact s);clear s
 gi_upto_region 3 with fail
 rw[<-K,<-r];clear K D WB HV
 gi_wp2_with fail
 exact⟨rfl,.inr ⟨_,rfl,.inr ⟨d,⟨rfl,x,l.drop (i+1),by rw[S];exact a3,e⟩,Q7⟩⟩⟩
end
theorem BW{P:jM}{c:jN}{b:jE->Act->ii->Prop}{a:Act}{w w':ii}(e:w'=w)(h:c.wp P b a w'):c.wp P b a w:=e▸h
theorem gg{P:jM}{fn:FuncId}{x y:jN}{b:jE->Act->ii->Prop}{a:Act}{w:ii}(h:∀K:Act->ii->Prop,(∀a w,WpF P fn y b a w->K a w)->WpF P fn x (Exit.then K b) a w):WpF P fn (.seq x y) b a w:=
 Ga (h _ λ_ _ h=>h)
def m6(cs:Array jd):Nat->List jd->Array jd
 |_,[]=>cs
 |o,v::a=>m6 (cs.setIfInBounds o v) (o+1) a
theorem yA:∀(d a c b:List jd),c.length=d.length->m6 (a++c++b).toArray a.length d=(a++d++b).toArray
 |[],a,c,b,h=>by
  obtain rfl:c=[]:=qw h
  rfl
 |v::d,a,[],b,h=>by simp at h
 |v::d,a,x::c,b,h=>by
  have e:(a++x::c++b).toArray.setIfInBounds a.length v=((a++[v])++c++b).toArray:=by
   apply oj
   rw[ol];show qg (a++x::c++b) a.length v=_;rw[pz,oo _ _ (jh _),Nat.sub_self];simp
  rw[m6,e];have f:=yA d (a++[v]) c b (by simpa using h);rw[jI]at f;have g:m6 ((a++[v])++c++b).toArray (a.length+1) d=(a++[v]++d++b).toArray:=f;rw[g];simp
theorem ze{b:Nat}{t:jB}:∀(a:List jd) (o:Nat) (W:ii) (cs:Array jd),W.heap[b]?=T (ja cs t (0,0))->(W.setCells b o a).heap[b]?=T (ja (m6 cs o a) t (0,0))
 |[],o,W,cs,h=>h
 |v::a,o,W,cs,h=>ze a (o+1) _ _ (iG v h)
theorem C5{b k:Nat}(hk:k≠b):∀(a:List jd) (o:Nat) (W:ii),(W.setCells b o a).heap[k]?=W.heap[k]?
 |[],o,W=>rfl
 |v::a,o,W=>(C5 hk a (o+1) (W.setCell ⟨b,o,A⟩ v)).trans (fu v hk)
theorem z8(b:Nat):∀(a:List jd) (o:Nat) (W:ii),(W.setCells b o a).heap.size=W.heap.size
 |[],o,W=>rfl
 |v::a,o,W=>(z8 b a (o+1) (W.setCell ⟨b,o,A⟩ v)).trans (ln _ _ _)
theorem sJ(b:Nat):∀(a:List jd) (o:Nat) (W:ii),(W.setCells b o a).os=W.os/\(W.setCells b o a).tape=W.tape/\(W.setCells b o a).output=W.output
 |[],o,W=>⟨rfl,rfl,rfl⟩
 |v::a,o,W=>sJ b a (o+1) (W.setCell ⟨b,o,A⟩ v)
theorem Fw(R n:Nat)(a:List jd)(o:Nat)(W:ii):aD R n W (W.setCells R o a):=
 ⟨(sJ R a o W).1,(sJ R a o W).2.1,(sJ R a o W).2.2,jH (z8 _ _ _ _).symm,λk _ hk=>C5 hk a o W⟩
theorem fZ(c:Cmt)(q:CQ)(a:c.parent.length=32)(b:c.confirm.length=32):(ah c q).toArray.size=73:=by rw[jJ,dT c q a b]
theorem MC(c:Cmt)(q:CQ)(n:Int):(ah c q).toArray.setIfInBounds 0 (I N n)=(ah {c with folder:=n} q).toArray:=by simp[ah]
theorem GW(c:Cmt)(q:CQ)(n:Int):(ah c q).toArray.setIfInBounds 1 (I N n)=(ah {c with epoch:=n} q).toArray:=by simp[ah]
theorem N9(c:Cmt)(q:CQ)(k:LBy)(a:c.parent.length=32)(b:k.length=32):m6 (ah c q).toArray 2 (k.map v8)=(ah {c with parent:=k} q).toArray:=by
 have h:=yA (k.map v8) [I N c.folder,I N c.epoch] (c.parent.map v8) (I N c.author::q.vc::q.vp::q.vb::q.vw::(c.confirm.map v8++[I N c.r,I N c.s])) (by simp[a,b]);exact h
theorem Oq(c:Cmt)(q:CQ)(n:Int)(a:c.parent.length=32):(ah c q).toArray.setIfInBounds 34 (I N n)=(ah {c with author:=n} q).toArray:=by
 apply oj
 rw[ol];unfold ah;have b:(c.parent.map v8).length=32:=by rw[jw];exact a
 show qg (_ ::_ ::(c.parent.map v8++_)) 34 _ =_;rw[ki,ki,oo _ _ Y,b]
 rfl
theorem Lj(c:Cmt)(a b d e x:jd)(f:c.parent.length=32):(ah c ⟨a,b,d,e⟩).toArray.setIfInBounds 35 x=(ah c ⟨x,b,d,e⟩).toArray:=by
 apply oj
 rw[ol];unfold ah;have g:(c.parent.map v8).length=32:=by rw[jw];exact f
 show qg (_ ::_ ::(c.parent.map v8++_)) 35 x=_;rw[ki,ki,oo _ _ Y,g]
 rfl
theorem Pp(c:Cmt)(q:CQ)(k:LBy)(a:c.parent.length=32)(b:c.confirm.length=32)(d:k.length=32):m6 (ah c q).toArray 39 (k.map v8)=(ah {c with confirm:=k} q).toArray:=by
 have e:∀x:LBy,ah {c with confirm:=x} q=(I N c.folder::I N c.epoch::(c.parent.map v8++[I N c.author,q.vc,q.vp,q.vb,q.vw]))++x.map v8++[I N c.r,I N c.s]:=λx=>by simp[ah]
 have h:=yA (k.map v8) (I N c.folder::I N c.epoch::(c.parent.map v8++[I N c.author,q.vc,q.vp,q.vb,q.vw])) (c.confirm.map v8) [I N c.r,I N c.s] (by simp[b,d]);have f:(jb .i64 c.folder::I N c.epoch::(c.parent.map v8++[I N c.author,q.vc,q.vp,q.vb,q.vw])).length=39:=by simp[a]
 rw[f,<-e,<-e]at h;exact h
theorem N4(c:Cmt)(q:CQ)(n:Int)(b:c.parent.length=32)(d:c.confirm.length=32):(ah c q).toArray.setIfInBounds 71 (I N n)=(ah {c with r:=n} q).toArray:=by
 apply oj
 rw[ol];have e:∀x:Int,(ah {c with r:=x} q).toArray.toList=(I N c.folder::I N c.epoch::(c.parent.map v8++([I N c.author,q.vc,q.vp,q.vb,q.vw]++c.confirm.map v8)))++[I N x,I N c.s]:=λx=>by simp[ah]
 have a:(jb .i64 c.folder::I N c.epoch::(c.parent.map v8++([I N c.author,q.vc,q.vp,q.vb,q.vw]++c.confirm.map v8))).length=71:=by simp[b,d]
 rw[e n,show(ah c q).toArray.toList=_ from e c.r,oo _ _ (by rw[a];exact jh _),a]
 rfl
theorem OH(c:Cmt)(q:CQ)(n:Int)(b:c.parent.length=32)(d:c.confirm.length=32):(ah c q).toArray.setIfInBounds 72 (I N n)=(ah {c with s:=n} q).toArray:=by
 apply oj
 rw[ol];have e:∀x:Int,(ah {c with s:=x} q).toArray.toList=(I N c.folder::I N c.epoch::(c.parent.map v8++([I N c.author,q.vc,q.vp,q.vb,q.vw]++c.confirm.map v8)))++[I N c.r,I N x]:=λx=>by simp[ah]
 have a:(jb .i64 c.folder::I N c.epoch::(c.parent.map v8++([I N c.author,q.vc,q.vp,q.vb,q.vw]++c.confirm.map v8))).length=71:=by simp[b,d]
 rw[e n,show(ah c q).toArray.toList=_ from e c.s,oo _ _ (by rw[a];decide),a]
 rfl
theorem Ml(c:Cmt)(a b d e:jd)(f:c.parent.length=32)(g:c.confirm.length=32):(ah c ⟨a,b,d,e⟩).toArray[35]?=T a:=by
 have h:=eE c ⟨a,b,d,e⟩ f g
 simpa using h.2.2.2.1
theorem df.laterX{M R X:Nat}{t e:jB}{sz:Nat}{d:jd->Array jd}{w0 wr i:ii}{n:Nat}{j:jd}{xs:List jd}(h:df M R t e sz d w0 wr n j xs)(w:R<M)(x:M<=X){cs:Array jd}{l:jB}{f:Nat×Nat}
 (m:wr.heap[X]?=T (ja cs l f)) (o:l≠e) (a:aD X wr.heap.size wr i):df M R t e sz d w0 i n j xs:=by
 have p:=(ji.1 h.box).1;refine⟨(a.block R p Y).trans h.box,?_,?_,ju h.sz' a.size⟩
 ·refine⟨h.own.1,?_⟩
  rcases h.own.2 with c|⟨g,k,q,r,c,b,s⟩
  ·exact .inl c
  refine .inr ⟨g,k,q,r,c,(a.block g (ji.1 b).1 (λu=>?_)).trans b,s⟩;rw[u,m]at b;injection b with b
  injection b with b v y
  exact o v
 exact h.but.trans ⟨a.os,a.tape,a.output,a.size,λk hk b=>a.block k (jO hk h.sz') Y⟩ (jh _)
theorem df.rolls{B0 M R:Nat}{t e:jB}{sz:Nat}{c:jd->Array jd}{w0 wr d:ii}{n:Nat}{f:jd}{xs:List jd}(h:df M R t e sz c w0 wr n f xs)(o:M<=B0)(a:dl B0 wr d):df M R t e sz c w0 d n f xs:=by
 refine⟨a.cells h.box,?_,?_,ju h.sz' a.size⟩
 ·refine⟨h.own.1,?_⟩
  rcases h.own.2 with b|⟨g,i,j,k,b,l,m⟩
  ·exact .inl b
  exact .inr ⟨g,i,j,k,b,a.cells l,m⟩
 exact h.but.trans ⟨a.os,a.tape,a.output,a.size,λk hk b=>a.low (jO hk h.sz') Y⟩ (jh _)
theorem dl.cell{B0:Nat}{d B:ii}(h:dl B0 d B){a:jQ}{v:jd}(b:d.cell? a=T v):B.cell? a=T v:=by
 unfold qh at b⊢
 cases ho:d.heap[a.block]? with
 |none=>rw[ho]at b;simp at b
 |some o=>
  cases o with
  |cells c t f=>rw[h.cells ho];rw[ho]at b;exact b
  |_=>rw[ho]at b;simp at b
theorem ap.rolls{D:Nat->Prop}{B0:Nat}{w w':ii}{v:jd}{sz n:Nat}{xs:List jd}(h:ap D w v sz n xs)(a:dl B0 w w'):ap D w' v sz n xs:=by
 obtain⟨b,p,c,d,f,i,k⟩:=h;refine⟨b,p,c,d,f,i,λl=>?_⟩;obtain⟨g,o,e,m,q⟩:=k l;exact⟨g,o,e,m,λj r s=>a.cell (q j r s)⟩
theorem bR.rolls{D:Nat->Prop}{B0:Nat}{w w':ii}(d:dl B0 w w'):∀{c:List (LBy)} {a:List jd},bR D w c a->bR D w' c a
 |[],a,h=>h
 |b::c,a,⟨e,f,g,i,j⟩=>⟨e,f,g,i.rolls d,j.rolls d⟩
theorem ap.laterX{D:Nat->Prop}{w w':ii}{X:Nat}{p:Option jQ}{m c:Nat}{q:jB}{f:Nat×Nat}(r:w.heap[X]?=T (ja #[ic p m c] q f))(hk:∀k,D k->k≠X->w'.heap[k]?=w.heap[k]?)
 {v:jd} {n:Nat} {l:LBy} (h:ap D w v 1 n (l.map v8)):ap D w' v 1 n (l.map v8):=by
 obtain⟨d,s,t,u,x,y,z⟩:=h;refine⟨d,s,t,u,x,y,λB=>?_⟩;obtain⟨g,o,e,i,k⟩:=z B;have C:0<l.length:=by rw[jw]at d;omega
 have E:g≠X:=λF=>by
  have b:=k 0 (v8 l[0]) (by rw[ob,j3 C];rfl);rw[F]at b;unfold qh at b;simp only[r]at b
  rcases o with _|o
  ·simp[v8]at b
  simp at b
 exact⟨g,o,e,i,λj b H=>(bE (a:=⟨g,o+j,A⟩) (hk g i E)).trans (k j b H)⟩
theorem bR.laterX{D:Nat->Prop}{w w':ii}{X:Nat}{p:Option jQ}{m c:Nat}{g:jB}{f:Nat×Nat}(e:w.heap[X]?=T (ja #[ic p m c] g f))(hk:∀k,D k->k≠X->w'.heap[k]?=w.heap[k]?):∀{d:List (LBy)} {a:List jd},bR D w d a->bR D w' d a
 |[],a,h=>h
 |b::d,a,⟨i,j,k,l,n⟩=>⟨i,j,k,l.laterX e hk,n.laterX e hk⟩
theorem cg.laterX{α:Type}{M R X:Nat}{t e:jB}{k:Nat}{f:α->jd->List jd}{body:α->LBy}{d:jd->Array jd}{w0 wr i:ii}{n:Nat}{j:jd}{l:List α}{o:List jd}(h:cg M R t e k f body d w0 wr n j l o)(s:R<M)(u:M<=X)
 {p:Option jQ} {m c:Nat} {q:jB} {fr:Nat×Nat} (r:wr.heap[X]?=T (ja #[ic p m c] q fr)) (v:q≠e) (b:aD X wr.heap.size wr i):cg M R t e k f body d w0 i n j l o:=
 ⟨h.row.laterX s u r v b,(h.kids.laterX r (λg a w=>b.block g a.2.1 w)).mono λg a=>⟨a.1,jO a.2.1 b.size,a.2.2⟩⟩
theorem cg.rolls{α:Type}{B0 M R:Nat}{t e:jB}{k:Nat}{f:α->jd->List jd}{body:α->LBy}{c:jd->Array jd}{w0 wr d:ii}{n:Nat}{i:jd}{l:List α}{j:List jd}(h:cg M R t e k f body c w0 wr n i l j)(m:M<=B0)(a:dl B0 wr d):cg M R t e k f body c w0 d n i l j:=
 ⟨h.row.rolls m a,(h.kids.rolls a).mono λg b=>⟨b.1,jO b.2.1 a.size,b.2.2⟩⟩
theorem gt{B0 X:Nat}{a W:ii}{cs:Array jd}{t:jB}{f:Nat×Nat}(c:a.heap[X]?=T (ja cs t f))(b:aD X a.heap.size a W):mb B0 a W:=
 ⟨b.size,λk o _ hk d=>(b.block k (ji.1 hk).1 (λe=>by rw[e,c]at hk;cases hk;cases d)).trans hk⟩
theorem wO{B0 M R i:Nat}{t e:jB}{sz n m:Nat}{q:jd->Array jd}{w0 b c:ii}{d f:jd}{xs r:List jd}(h:df M R t e sz q w0 b n d xs)(j:aW M e sz b c d f m r):mb B0 b (c.setCell ⟨R,i,A⟩ f):=by
 refine⟨by rw[ln];exact j.grown.size,λk o _ hk l=>?_⟩;have s:=(ji.1 hk).1;refine(fu _ (λe=>by rw[e,h.box]at hk;cases hk;cases l)).trans ((j.grown.block k s (λa=>?_)).trans hk)
 rcases h.own.2 with p|⟨g,w,x,u,p,v,y⟩
 ·rw[p.1]at a;cases a
 rw[u]at a;injection a with a
 rw[a,v]at hk;cases hk;cases l
theorem wB(B0:Nat)(a:ii)(o:Obj):mb B0 a (a.alloc o):=⟨by simp,λk b _ hk _=>(o4 _ _ _ (ji.1 hk).1).trans hk⟩
theorem rS{α:Type}{f:List Val->Option α}:∀{l:List Val} {b:List α} {v:Val} {a:α},bL f l=T b->v.k=3->f v.l=T a->bL f (l++[v])=T (b++[a])
 |[],b,v,a,h,hk,c=>by
  rw[bL]at h;injection h with h
  subst h;show bL f [v]=_;rw[bL,if_pos hk,c,jm,bL]
  rfl
 |x::l,b,v,a,h,hk,c=>by
  rw[bL]at h
  by_cases d:x.k=3
  ·rw[if_pos d]at h
   cases hfx:f x.l with
   |none=>rw[hfx]at h;cases h
   |some y=>
    rw[hfx,jm]at h
    cases hr:bL f l with
    |none=>rw[hr]at h;cases h
    |some e=>
     rw[hr,jX]at h;injection h with h
     rw[jW,bL,if_pos d,hfx,jm,rS hr hk c,<-h]
     rfl
  rw[if_neg d]at h;cases h
theorem mD{α:Type}{f:List Val->Option α}{v:Val}{r:List Val}(a:v.k≠3\/f v.l=A):∀{l:List Val} {b:List α},bL f l=T b->bL f (l++v::r)=A
 |[],b,h=>by
  show bL f (v::r)=A;rw[bL]
  rcases a with a|a
  ·rw[if_neg a]
  split
  ·rw[a];rfl
  rfl
 |x::l,b,h=>by
  rw[bL]at h
  by_cases c:x.k=3
  ·rw[if_pos c]at h
   cases hfx:f x.l with
   |none=>rw[hfx]at h;cases h
   |some y=>
    rw[hfx,jm]at h
    cases hr:bL f l with
    |none=>rw[hr]at h;cases h
    |some d=>
     rw[jW,bL,if_pos c,hfx,jm,mD a hr]
     rfl
  rw[if_neg c]at h;cases h
theorem sF{α:Type}{f:List Val->Option α}:∀{l:List Val} {a:List α},bL f l=T a->a.length=l.length
 |[],a,h=>by
  rw[bL]at h;injection h with h
  rw[<-h];rfl
 |x::l,a,h=>by
  rw[bL]at h
  by_cases b:x.k=3
  ·rw[if_pos b]at h
   cases hfx:f x.l with
   |none=>rw[hfx]at h;cases h
   |some y=>
    rw[hfx,jm]at h
    cases hr:bL f l with
    |none=>rw[hr]at h;cases h
    |some c=>
     rw[hr,jX]at h;injection h with h
     rw[<-h];simp[sF hr]
  rw[if_neg b]at h;cases h
theorem Mn(v:Val)(l:List Val):(rI (v::l)=A->v.k≠1)/\∀r,rI (v::l)=T r->v.k=1/\r=(v.n,l):=by
 have e:rI (v::l)=(if v.k=1 then T (v,l)else A).map λr=>(r.1.n,r.2):=rfl
 rw[e]
 by_cases hk:v.k=1
 ·rw[if_pos hk]
  exact⟨(λh=>by cases h),λr h=>⟨hk,by injection h with h;exact h.symm⟩⟩
 rw[if_neg hk];exact⟨λ_=>hk,(λr h=>by cases h)⟩
theorem Cy:∀{l:List Val} {a:List Int},cR l=T a->a.length=l.length
 |[],a,h=>by
  rw[cR]at h;injection h with h
  rw[<-h];rfl
 |v::l,a,h=>by
  rw[cR]at h
  by_cases hk:v.k=1
  ·rw[if_pos hk]at h
   cases hr:cR l with
   |none=>rw[hr]at h;cases h
   |some b=>
    rw[hr,jX]at h;injection h with h
    rw[<-h];simp[Cy hr]
  rw[if_neg hk]at h;cases h
theorem EJ:∀{l:List Val} {a:List Int} {v:Val},cR l=T a->v.k=1->cR (l++[v])=T (a++[v.n])
 |[],a,v,h,hk=>by
  rw[cR]at h;injection h with h
  subst h;show cR [v]=_;rw[cR,if_pos hk,cR]
  rfl
 |x::l,a,v,h,hk=>by
  rw[cR]at h
  by_cases b:x.k=1
  ·rw[if_pos b]at h
   cases hr:cR l with
   |none=>rw[hr]at h;cases h
   |some c=>
    rw[hr,jX]at h;injection h with h
    rw[jW,cR,if_pos b,EJ hr hk,<-h]
    rfl
  rw[if_neg b]at h;cases h
theorem zj{v:Val}{r:List Val}(c:v.k≠1):∀{l:List Val} {a:List Int},cR l=T a->cR (l++v::r)=A
 |[],a,h=>by
  show cR (v::r)=A;rw[cR,if_neg c]
 |x::l,a,h=>by
  rw[cR]at h
  by_cases b:x.k=1
  ·rw[if_pos b]at h
   cases hr:cR l with
   |none=>rw[hr]at h;cases h
   |some d=>
    rw[jW,cR,if_pos b,zj c hr]
    rfl
  rw[if_neg b]at h;cases h
def vO(P:Nat)(w:ii):Nat:=match w.cell? ⟨P,0,A⟩with|some (ic _ n _)=>n|_=>0
theorem EL{N0 P:Nat}{w:ii}{l:List Val}(h:RdV N0 w P l):vO P w=l.length:=by
 obtain⟨p,c,b,a,-,-⟩:=h;have:w.cell? ⟨P,0,A⟩=T (ic p l.length c):=cell_of a rfl;unfold vO;rw[this]
theorem gS{C X M:Nat}{a b c:ii}(h:aD C M a b)(k:aD X b.heap.size b c)(d:M<=X)(e:M<=b.heap.size):aD C M a c:=
 h.trans ⟨k.os,k.tape,k.output,k.size,λi f _=>k.block i Y Y⟩ (jh _)
theorem uw{C M d:Nat}{a b c:ii}(h:aD C M a b)(k:aD C M a c)(e:b.heap.size<=c.heap.size)(f:d<=C)(g:d<=M):jk d b c:=
 ⟨k.os.trans h.os.symm,k.tape.trans h.tape.symm,k.output.trans h.output.symm,e,λi j=>(k.block i Y Y).trans (h.block i Y Y).symm⟩
theorem IS:(jf.info? 49).map (λi=>(i.zero,i.size,i.bytes))=T (T (je #[I N 0,I N 0,I N 0,I N 0,I N 0]),5,40):=by kernel_rfl
theorem G3{w:ii}{o:jL}{a:Act}{K:Act->ii->Prop}{e:jE->Act->ii->Prop}(s x:lw)
 (f:o.op=.call {callee:=.builtin .append,args:=#[s,x],argTypes:=#[30,30]})
 (B:Nat) (v:jd) (n:Nat) (xs:List jd) (g:a.eval s=v) (i:w.ownsRow B 49 5 v n xs) (b:jd) (m:Nat) (c:List jd) (j:a.eval x=b) (k:bZ w b 5 m c) (l:∀b∈c,b.oneCell'=true)
 (E:n+m<=2900000) (p:B<=w.heap.size) (h:∀d w',aW B 49 5 w w' v d (n+m) (xs++c)->K (a.put o.dst d) w'):o.wp jf a w K e:=by
 obtain⟨q,r,t,u,y⟩:=lE IS;exact lT s x 30 f B 49 q _ 5 40 underlying30 r t u y rfl L v n xs g i b m c j k l (by unfold maxLen;omega) Y p
  λd w' z C D=>h d w' (lD z C D)
section
attribute [local go_sem] Oper.semAt_some
def SmL(l:List Val):Prop:=∃f,(∀x∈l,wfV f x)/\(encs l).length<=1000000
theorem SmL.len{l:List Val}(h:SmL l):l.length<=1000000:=by
 obtain⟨f,-,a⟩:=h;have:=oe l;omega
theorem SmL.tail{x:Val}{l:List Val}(h:SmL (x::l)):SmL l:=by
 obtain⟨f,a,b⟩:=h;rw[encs,jI]at b;exact⟨f,λy c=>a y (qy _ c),by omega⟩
theorem SmL.mem{x:Val}{l:List Val}(h:SmL l)(d:x∈l):SmL x.l:=by
 obtain⟨f,i,o⟩:=h;have c:=i x d;have j:=vQ d;obtain⟨k,n,s,a⟩:=x
 by_cases hk:k=3
 ·subst hk
  obtain⟨g,-,e,-,b⟩:=nY c rfl;refine⟨g,b,?_⟩;have m:enc (.mk 3 n s a)=3#8::(aZ a.length++encs a):=by rw[enc,if_neg L,if_neg L]
  rw[m,pa,jI]at j;show(encs a).length<=_;omega
 have e:a=[]:=by
  cases f<;>rw[wfV]at c<;>rcases c with⟨-,-,-,-,b⟩|⟨-,-,-,b⟩|⟨b,-⟩<;>first|exact b|exact absurd b hk
 subst e;exact⟨0,(λy b=>by cases b),by show(encs []).length<=_;simp[encs]⟩
theorem zB{l:List Val}{r:Int×List Val}(h:rI l=T r):∃x,l=x::r.2:=by
 unfold rI at h;obtain⟨q,a,b⟩:=fp h;rw[<-b];exact⟨q.1,(kX a).1⟩
theorem Az{l:List Val}{r:ByteArray×List Val}(h:rT l=T r):∃x,l=x::r.2:=by
 unfold rT at h;obtain⟨q,a,b⟩:=fp h;rw[<-b];exact⟨q.1,(kX a).1⟩
theorem K5{l:List Val}{r:List Val×List Val}(h:rL l=T r):∃x,l=x::r.2/\x.l=r.1:=by
 unfold rL at h;obtain⟨q,a,b⟩:=fp h;rw[<-b];exact⟨q.1,(kX a).1,rfl⟩
theorem ui{l:List Val}{r:LBy×List Val}(h:rD l=T r):(∃x,l=x::r.2)/\r.1.length=32:=by
 unfold rD at h;obtain⟨q,b,a⟩:=cY h
 split at a
 ·injection a with a
  rw[<-a];exact⟨Az b,by rw[eA];assumption⟩
 cases a
theorem Jf{l:List Val}{r:(Int×LBy)×List Val}(h:rW l=T r):∃x y,l=x::y::r.2:=by
 unfold rW at h;obtain⟨q,a,b⟩:=cY h;obtain⟨p,c,d⟩:=fp b;obtain⟨x,e⟩:=zB a;obtain⟨y,f⟩:=Az c;rw[<-d];exact⟨x,y,by rw[e,f]⟩
theorem SmL.rI{l:List Val}{r:Int×List Val}(h:SmL l)(e:Go.Proofs.YthpmekcffpppkaaGreatDoor.rI l=T r):SmL r.2:=by obtain⟨x,rfl⟩:=zB e;exact h.tail
theorem SmL.rD{l:List Val}{r:LBy×List Val}(h:SmL l)(e:Go.Proofs.YthpmekcffpppkaaGreatDoor.rD l=T r):SmL r.2:=by obtain⟨x,rfl⟩:=(ui e).1;exact h.tail
theorem SmL.rL{l:List Val}{r:List Val×List Val}(h:SmL l)(e:Go.Proofs.YthpmekcffpppkaaGreatDoor.rL l=T r):SmL r.1/\SmL r.2:=by
 obtain⟨x,rfl,a⟩:=K5 e;exact⟨by rw[<-a];exact h.mem (qe ..),h.tail⟩
theorem SmL.rW{l:List Val}{r:(Int×LBy)×List Val}(h:SmL l)(e:Go.Proofs.YthpmekcffpppkaaGreatDoor.rW l=T r):SmL r.2:=by obtain⟨x,y,rfl⟩:=Jf e;exact h.tail.tail
theorem SmL.suffix{l a b:List Val}(h:SmL l)(e:l=a++b):SmL b:=by
 obtain⟨f,c,d⟩:=h;rw[e,o5,jI]at d;exact⟨f,λx g=>c x (by rw[e];exact List.mem_append_right _ g),by omega⟩
def pB(w:ii)(o:Option Cmt)(e:jG)(w':ii):Prop:=
 jk w w w'/\match o with
  |some c=>∃q,e=jl (je (ah c q).toArray)/\ay (λg=>w.heap.size<=g/\g<w'.heap.size) w' c q
  |none=>e=.panicked bG
structure Kp(C R:Nat)(a b:ii):Prop where
 os:b.os=a.os
 tape:b.tape=a.tape
 output:b.output=a.output
 size:a.heap.size<=b.heap.size
 block:∀k,k<a.heap.size->k≠C->k≠R->b.heap[k]?=a.heap[k]?
theorem Kp.ofR{C R:Nat}{a b:ii}(h:aD R a.heap.size a b):Kp C R a b:=⟨h.os,h.tape,h.output,h.size,λk hk _ c=>h.block k hk c⟩
theorem Kp.ofC{C R:Nat}{a b:ii}(h:aD C a.heap.size a b):Kp C R a b:=⟨h.os,h.tape,h.output,h.size,λk hk c _=>h.block k hk c⟩
theorem Kp.ofB{C R:Nat}{a b:ii}(h:jk a a b):Kp C R a b:=⟨h.os,h.tape,h.output,h.size,λk hk _ _=>h.block k hk⟩
def Kept(C R:Nat)(c:ii->Prop):Prop:=∀a b,c a->Kp C R a b->c b
theorem Kc{C R:Nat}{w:ii}(d:w.heap.size<=C)(e:w.heap.size<=R):Kept C R (λx=>jk w w x):=
 λa b h k=>h.trans ⟨k.os,k.tape,k.output,k.size,λi c=>k.block i (jO c h.size) Y Y⟩
theorem yQ{C R D:Nat}{ds:Option (List Deferred)}(c:D≠C)(d:D≠R):Kept C R (λx=>x.heap[D]?=T (.deferred ds)):=
 λa b h k=>(k.block D (ji.1 h).1 c d).trans h
theorem zt{C R M H:Nat}{v:jd}{sz n:Nat}{xs:List jd}(c:C<M)(d:R<M):Kept C R (λx=>H<=x.heap.size/\ap (λg=>M<=g/\g<H) x v sz n xs):=
 λa b h k=>⟨ju h.1 k.size,h.2.keep λg e=>k.block g Y Y Y⟩
theorem AT{α:Type}{C R M H:Nat}{v:jd}{sz n:Nat}{f:α->jd->List jd}{body:α->LBy}{l:List α}(i:C<M)(j:R<M):Kept C R (λx=>H<=x.heap.size/\∃c,ap (λg=>M<=g/\g<H) x v sz n (cG f l c)/\bR (λg=>M<=g/\g<H) x (l.map body) c):=by
 rintro a b ⟨h,c,d,e⟩ k;have hk:∀g,(M<=g/\g<H)->b.heap[g]?=a.heap[g]?:=λg m=>k.block g Y Y Y
 exact⟨ju h k.size,c,d.keep hk,e.keep hk⟩
theorem Kept.and{C R:Nat}{c d:ii->Prop}(h:Kept C R c)(f:Kept C R d):Kept C R (λx=>c x/\d x):=λa b e k=>⟨h a b e.1 k,f a b e.2 k⟩
theorem fG{w x:ii}{Ds:List Nat}{tmps:Array jd}{ov:Option Cmt}{fd:Func}(d:ov=A)(e:jk w w x)(f:Ds.Nodup)(c:∀D∈Ds,x.heap[D]?=T (.deferred (T []))/\w.heap.size<=D):
 LeavesInM Fence.wide 0 jf fd tmps (pB w ov) (marksOf Ds) (.panicking bG) x:=by
 subst d;refine uT (λh=>by cases h) Ds x f (λD b=>(c D b).1) (λg a=>?_);exact⟨e.trans ⟨a.os,a.tape,a.output,jH a.size.symm,λk hk=>a.block k (λb=>by have:=(c k b).2;omega)⟩,rfl⟩
theorem ap.cellsOnly{D:Nat->Prop}{w:ii}{v:jd}{sz n:Nat}{xs:List jd}(h:ap D w v sz n xs)(j:0<sz):ap (λg=>D g/\∃c t f,w.heap[g]?=T (ja c t f)) w v sz n xs:=by
 obtain⟨b,p,c,k,l,m,q⟩:=h;refine⟨b,p,c,k,l,m,λd=>?_⟩;obtain⟨g,o,e,r,i⟩:=q d;refine⟨g,o,e,⟨r,?_⟩,i⟩;have s:0<xs.length:=by rw[b];exact Nat.mul_pos d j
 have a:=i 0 xs[0] (j3 s);unfold qh at a
 cases ho:w.heap[g]? with
 |none=>simp[ho]at a
 |some u=>
  cases u with
  |cells c t f=>exact⟨c,t,f,rfl⟩
  |_=>simp[ho]at a
theorem bR.cellsOnly{D:Nat->Prop}{w:ii}:∀{d:List (LBy)} {a:List jd},bR D w d a->bR (λg=>D g/\∃c t f,w.heap[g]?=T (ja c t f)) w d a
 |[],a,h=>h
 |b::d,a,⟨c,e,f,g,i⟩=>⟨c,e,f,g.cellsOnly L,i.cellsOnly⟩
theorem ay.cellsOnly{D:Nat->Prop}{w:ii}{c:Cmt}{q:CQ}(h:ay D w c q):ay (λg=>D g/\∃c t f,w.heap[g]?=T (ja c t f)) w c q:=by
 obtain⟨a,b,⟨d,e,f⟩,⟨g,i,j⟩,k,l⟩:=h;exact⟨a.cellsOnly L,b.cellsOnly L,⟨d,e.cellsOnly L,f.cellsOnly⟩,⟨g,i.cellsOnly L,j.cellsOnly⟩,k,l⟩
theorem Hc{w x:ii}{C:Nat}{Ds:List Nat}{tmps:Array jd}{ov:Option Cmt}{c:Cmt}{q:CQ}(l:ov=T c)(m:jk w w x)(n:Ds.Nodup)(e:∀D∈Ds,x.heap[D]?=T (.deferred (T []))/\w.heap.size<=D)
 (j:x.heap[C]?=T (ja (ah c q).toArray 37 (0,0))) (o:tmps.getD 2 js=jj (T ⟨C,0,A⟩)) (i:ay (λg=>w.heap.size<=g/\g<x.heap.size) x c q):
 LeavesInM Fence.wide 0 jf Tryz.f59 tmps (pB w ov) (marksOf Ds) .returning x:=by
 subst l;refine uT (λh=>by cases h) Ds x n (λD d=>(e D d).1) (λb a=>?_);have h:∀g,(∃c t f,x.heap[g]?=T (ja c t f))->g∉Ds:=λg ⟨c,t,f,b⟩ d=>by rw[(e g d).1]at b;cases b
 have p:=(a.block C (h C ⟨_,_,_,j⟩)).trans j;refine⟨_,j7 rfl _ _ C 37 _ (0,0) _ o p jV rfl (by rw[fZ c q i.plen i.clen];exact fa),?_,q,rfl,?_⟩
 ·exact m.trans ⟨a.os,a.tape,a.output,jH a.size.symm,λk hk=>a.block k (λd=>by have:=(e k d).2;omega)⟩
 exact(i.cellsOnly.keep λg b=>a.block g (h g b.2)).mono λg b=>⟨b.1.1,by rw[a.size];exact b.1.2⟩
def NQ(b:jE->Act->ii->Prop):jE->Act->ii->Prop
 | .normal,a,w=>b .normal a w
 | .panic c,a,w=>∀t,b (.panic c) {a with tmps:=t} w
 |_,_,_=>False
theorem G7{P:jM}{b:Array jL}{i:jE->Act->ii->Prop}{g:Nat}{a:Act}{w:ii}(S:ii->Prop)(f:Nat)(l:List (Nat×Bool))(j:P.follows .mixedOrders=true)(k:Region.noSelect b=true)
 (hk:gT .any b f l (jP b.size false)=true) (m:l.length=b.size) (n:S w.drew) (h:fg P b (NQ i) S f l a w.drew):(Code.region g b true).wp P i a w:=by
 refine wp_mono (vS S f l j k hk m (λc a d v w h t=>?_) n h) (λe a w h=>?_)
 ·have c:=h t
  have e:({(Act.put a d v)with tmps:=t}:Act)={a with tmps:=t}:=by rw[Act.mk.injEq];exact⟨rfl,put_defers a d v⟩
  rwa [e]at c
 cases e with
 |normal=>exact h
 |panic c=>exact h a.tmps
 |ret=>exact h.elim
 |exit g=>exact h.elim
 |goto g=>exact h.elim
 |outgrown=>exact h.elim
theorem o6(R n i:Nat)(v:jd)(W:ii):aD R n W (W.setCell ⟨R,i,A⟩ v):=⟨rfl,rfl,rfl,jH (sd _ _ _).symm,λk _ a=>nh _ a⟩
theorem yV{P:jM}{fn:FuncId}{c:jN}{b:jE->Act->ii->Prop}{a:Act}{w w':ii}(e:w'=w)(h:WpF P fn c b a w'):WpF P fn c b a w:=e▸h
theorem M7(v:Val)(eb:jd)(w:ii)(c:ao (·<w.heap.size) w v eb)(e:SmL v.l):
 jo jf 59 #[je #[I N v.k,I N v.n,jg v.s,eb]] w (pB w (gC v)):=by
 have e2:∀(fn:Fn) (first c8:Array jd) (w:ii),(Instr.makeFunc fn first c8).run jf w=.ok (.func fn first c8) w:=λ_ _ _ _=>rfl
 obtain⟨pu,cu,rfl⟩:=c.form;obtain⟨ov,d⟩:=J (gC v);rw[<-d];unfold gC at d;obtain⟨xk,xn,xs,l⟩:=v;have f:ov=(rI l).bind λa=>(rI a.2).bind λb=>(rD b.2).bind λp=>(rI p.2).bind λau=>(rL au.2).bind λch=>(bL gU ch.1).bind λew=>
  (rL ch.2).bind λg=>(cR g.1).bind λm=>(rL g.2).bind λh=>(bL rBx h.1).bind λbox=>(rL h.2).bind λj=>(bL rWl j.1).bind λwel=>
  (rD j.2).bind λk=>(rI k.2).bind λr=>(rI r.2).map λs=>(⟨a.1,b.1,p.1,au.1,ew,m,box,wel,k.1,r.1,s.1⟩:Cmt):=d
 have g:SmL l:=e;have a3:ao (·<w.heap.size) w (vL l) (ic pu l.length cu):=by
  rw[ao]at c;unfold vL;rw[ao];exact c
 show jo jf 59 #[je #[I N xk,I N xn,jg xs,ic pu l.length cu]] w (pB w ov);have j:=O f;have t:=O g;have Yf:=O a3;clear d f e g c a3;obtain⟨nl,c⟩:=J l.length;rw[<-c]at Yf⊢;have D:=O c;clear c;obtain⟨x0,d⟩:=J (((w.alloc (ja #[I N xk,I N xn,jg xs,ic pu nl cu] 118)).alloc (ja (ah dP fk).toArray 37)));obtain⟨f,g⟩:=J w.heap.size;have e:=jq w (ja #[I N xk,I N xn,jg xs,ic pu nl cu] 118);have n:=af w (ja #[I N xk,I N xn,jg xs,ic pu nl cu] 118);have h:=jq (w.alloc (ja #[I N xk,I N xn,jg xs,ic pu nl cu] 118)) (ja (ah dP fk).toArray 37);have c:=af (w.alloc (ja #[I N xk,I N xn,jg xs,ic pu nl cu] 118)) (ja (ah dP fk).toArray 37);replace e:=av e c;rw[jS]at h;have o:=(n).trans (c.mono (n).size);rw[<-d]at o;rw[<-d,<-g]at e;rw[<-d,<-g]at h;have y:=O e;have z:=O h;have k:=O o;have q:=O d;have m:=O g;clear o d g e n h c;have B:ih (ao (·<w.heap.size) x0 (vL l) (ic pu nl cu)):=O (ao.keep (λg hg=>k.block g hg) _ _ Yf.out);have c:=af x0 (ja #[ic pu nl cu] 208);have e:=RdV.new (N0:=w.heap.size) (l:=l) (x:=vL l) rfl B k.size;have h:x0.heap.size=f+2:=by rw[q,m];simp
 obtain⟨x1,d⟩:=J (x0.alloc (ja #[ic pu nl cu] 208));rw[<-d,h]at e;rw[<-d]at c;have n:w.heap.size=f:=m.symm;rw[n]at e;have VZ:=O n;have u:ih (x1.heap[f+1]?=T (ja (ah dP fk).toArray 37 (0,0))):=Z z c;have F:=O e;have E:ih (jk w w x1):=ac k c;have U:ih (x1.heap.size=f+3):=O (by rw[d];simp[h]);have o:=O d;have c3:=cell_of (i:=3) y rfl;clear e c h d n Yf B D;refine FT func59 rfl ?_;simp only[ntmps59,jJ,pa,qz,Nat.reduceAdd,Nat.reduceSub,qA,qB,qC,qD,oi,jW];refine gg λK0 ec=>ib ?_
 go_wp2_with fail
 refine yV (w':=x0) (q.trans rfl) ?_;rw[<-m];clear q m;refine gg λK0 ec=>ib ?_
 go_wp2_with fail
 clear c3;refine yV o ?_;have c:x0.heap.size=f+2:=by have:=U.out;rw[o]at this;simp at this;omega
 rw[c];clear c o y z k;refine gg λK0 ec=>ib ?_
 obtain⟨O0,SK,H,m⟩:∃Vw:ii->Prop,ih (Kept (f+1) (f+2) Vw)/\ih (∀x,Vw x->jk w w x/\∀D∈([]:List Nat),x.heap[D]?=T (.deferred (T []))/\w.heap.size<=D)/\ih (Vw x1):=
  ⟨λx=>jk w w x,O (Kc (aw VZ) (aw VZ)),O (λx h=>⟨h,λD h=>by cases h⟩),E⟩
 have Td:ih (([]:List Nat).Nodup):=O List.nodup_nil;clear E;have d:=t;clear t;have t:=O (fC (f) (f+2) Y l x1 F d.len);obtain⟨y,o⟩:=J (rI l);have E:=O (λr (h:y=T r)=>d.rI (r:=r) (by rw[<-o];exact h));rw[<-o]at t j;clear o
 go_wp2_with fail
 refine t.mono ?_;rintro e x2 ⟨n,P⟩;have k:=O ((n.block (f+1) (ji.1 u).1 Y).trans u);have c:=O (SK _ _ m.out (Kp.ofR n));clear n t m u F d
 rcases y with _|r
 ·obtain rfl:e=.panicked bG:=P
  have F:ov=A:=j.out;exact fG (Ds:=[]) F (H _ c.out).1 Td (H _ c.out).2
 obtain⟨va,la⟩:=r;obtain⟨rfl,z⟩:=P;have u:ih (RdV f x2 (f+2) la):=O z;have m:ih (SmL la):=O (E _ rfl);replace j:=j.out;rw[jm]at j;replace j:=O j;dsimp only at j;clear z E;have t:=O (fC (f) (f+2) Y la x2 u m.len);obtain⟨y,o⟩:=J (rI la);have E:=O (λr (h:y=T r)=>m.rI (r:=r) (by rw[<-o];exact h));rw[<-o]at t j;clear o
 go_wp2_with fail
 refine t.mono ?_;rintro e x3 ⟨n,P⟩;have q:=O ((n.block (f+1) (ji.1 k).1 Y).trans k);have d:=O (SK _ _ c.out (Kp.ofR n));clear n t c k u m
 rcases y with _|r
 ·obtain rfl:e=.panicked bG:=P
  have F:ov=A:=j.out;exact fG (Ds:=[]) F (H _ d.out).1 Td (H _ d.out).2
 obtain⟨vb,lb⟩:=r;obtain⟨rfl,z⟩:=P;have u:ih (RdV f x3 (f+2) lb):=O z;have k:ih (SmL lb):=O (E _ rfl);replace j:=j.out;rw[jm]at j;replace j:=O j;dsimp only at j;clear z E;have t:=O (BX (f) (f+2) Y lb x3 u k.len);obtain⟨y,o⟩:=J (rD lb);have E:=O (λr (h:y=T r)=>k.rD (r:=r) (by rw[<-o];exact h));rw[<-o]at t j;have R3:ih (∀r,y=T r->r.1.length=32):=O (λr h=>(ui (by rw[<-o];exact h)).2);clear o
 go_wp2_with fail
 refine t.mono ?_;rintro e x4 ⟨n,P⟩;have m:=O ((n.block (f+1) (ji.1 q).1 Y).trans q);have c:=O (SK _ _ d.out (Kp.ofR n));clear n t d q u k
 rcases y with _|r
 ·obtain rfl:e=.panicked bG:=P
  have F:ov=A:=j.out;exact fG (Ds:=[]) F (H _ c.out).1 Td (H _ c.out).2
 obtain⟨vp,lp⟩:=r;obtain⟨rfl,z⟩:=P;have k:ih (RdV f x4 (f+2) lp):=O z;have d:ih (SmL lp):=O (E _ rfl);replace j:=j.out;rw[jm]at j;replace j:=O j;dsimp only at j;clear z E;have V:ih (vp.length=32):=O (R3 _ rfl);clear R3;have t:=O (fC (f) (f+2) Y lp x4 k d.len);obtain⟨y,o⟩:=J (rI lp);have E:=O (λr (h:y=T r)=>d.rI (r:=r) (by rw[<-o];exact h));rw[<-o]at t j;clear o
 go_wp2_with fail
 refine t.mono ?_;rintro e x5 ⟨n,P⟩;have W:=O ((n.block (f+1) (ji.1 m).1 Y).trans m);have u:=O (SK _ _ c.out (Kp.ofR n));clear n t c m k d
 rcases y with _|r
 ·obtain rfl:e=.panicked bG:=P
  have F:ov=A:=j.out;exact fG (Ds:=[]) F (H _ u.out).1 Td (H _ u.out).2
 obtain⟨vd,ld⟩:=r;obtain⟨rfl,z⟩:=P;have m:ih (RdV f x5 (f+2) ld):=O z;have X:ih (SmL ld):=O (E _ rfl);replace j:=j.out;rw[jm]at j;replace j:=O j;dsimp only at j;clear z E;have b1:∀c:Cmt,c.parent.length=32->c.confirm.length=32->(ah c fk).toArray.size=73:=λc h1 D=>fZ c fk h1 D
 obtain⟨⟨v0,c0⟩,f0,g0,o0⟩:=bH (i:=0) (I N va) W.out (by rw[b1 _ rfl rfl];decide);rw[MC]at g0;obtain⟨⟨v1,c1⟩,f1,g1,o1⟩:=bH (i:=1) (I N vb) g0 (by rw[b1 _ rfl rfl];decide);rw[GW]at g1;obtain⟨y1,d⟩:=J ((x5.setCell ⟨f+1,0,A⟩ (I N va)).setCell ⟨f+1,1,A⟩ (I N vb));rw[<-d]at g1;have cp:y1.there (f+1) 2 (vp.map v8).toArray.size:=lZ g1 (by rw[b1 _ rfl rfl,show(vp.map v8).toArray.size=(vp.map v8).length from jJ ..,jw,V];decide);have bc:(jf.info? 23).map (·.size)=T (vp.map v8).toArray.size:=by rw[show(vp.map v8).toArray.size=(vp.map v8).length from jJ ..,jw,V];kernel_rfl
 have g2:=ze (vp.map v8) 2 _ _ g1;rw[N9 _ _ _ rfl V]at g2;obtain⟨y2,q⟩:=J (y1.setCells (f+1) 2 (vp.map v8));rw[<-q]at g2;obtain⟨⟨v3,c3⟩,f3,B,o3⟩:=bH (i:=34) (I N vd) g2 (by rw[b1 _ V.out rfl];decide);rw[Oq _ _ _ V.out]at B;have Rh:aD (f+1) x5.heap.size x5 (y2.setCell ⟨f+1,34,A⟩ (I N vd)):=by
  rw[q,d];exact(((o6 (f+1) x5.heap.size 0 (I N va) x5).trans (o6 (f+1) x5.heap.size 1 (I N vb) _) (jh _)).trans (Fw (f+1) x5.heap.size (vp.map v8) 2 _) (jh _)).trans (o6 (f+1) x5.heap.size 34 (I N vd) _) (jh _)
 have K:ih ((y2.setCell ⟨f+1,34,A⟩ (I N vd)).heap[f+1]?=T (ja (ah {dP with folder:=va,epoch:=vb,parent:=vp,author:=vd} fk).toArray 37 (0,0))):=O B;have M:=O (m.keep (w':=y2.setCell ⟨f+1,34,A⟩ (I N vd)) (Rh.block (f+2) m.lt Y) (λk hk=>Rh.block k (aU m.lt) Y));have Q:=O (SK _ _ u.out (Kp.ofC Rh));have R:ih (f+3<=(y2.setCell ⟨f+1,34,A⟩ (I N vd)).heap.size):=O (by have:=m.lt;have:=Rh.size;omega);have ck:=O cp;have QH:=O bc;have aa:=O d;have ad:=O q;rw[d]at ck;have S:(y1.setCells (f+1) 2 (vp.map v8))=y2:=q.symm;rw[d]at S;clear g0 g1 g2 B o0 o1 o3 Rh cp bc d q b1 W m u U;have q:=X;clear X
 go_wp2_with (refine jn rfl λ_ u=>qn 23 _ _ rfl (f+1) 2 (vp.map v8).toArray rfl rfl ck QH (dB vp) (u _ _ ?_);rw[show(vp.map v8).toArray.toList=vp.map v8 from rfl,S])
 generalize y2.setCell ⟨f+1,34,A⟩ (I N vd)=x6 at K M Q R⊢;have d:=K;have Ux:=M;have B:=Q;have U:=R;clear K M Q R c0 f0 c1 f1 c3 f3 S ck QH aa ad;obtain⟨c6,m⟩:∃c:Cmt,c={dP with folder:=va,epoch:=vb,parent:=vp,author:=vd}:=⟨_,rfl⟩;rw[<-m]at d;replace V:ih (c6.parent.length=32/\c6.confirm.length=32):=O (by rw[m];exact⟨V,dy⟩);have ed:=O m;clear m;refine gg λK1 bh=>gg λK2 eg=>ib ?_
 have t:=O (wM f (f+2) Y ld x6 Ux q.len);obtain⟨y,o⟩:=J (rL ld);have E:=O (λr (h:y=T r)=>q.rL (r:=r) (by rw[<-o];exact h));rw[<-o]at t j;clear o
 go_wp2_with fail
 refine t.mono ?_;rintro e x7 ⟨n,P⟩;have m:=O ((n.block (f+1) (ji.1 d).1 Y).trans d);have bg:=O (SK _ _ B.out (Kp.ofR n));have a2:ih (f+3<=x7.heap.size):=O (ju U n.size);clear n t B d Ux q U
 rcases y with _|r
 ·obtain rfl:e=.panicked bG:=P
  have F:ov=A:=j.out;exact fG (Ds:=[]) F (H _ bg.out).1 Td (H _ bg.out).2
 obtain⟨cq,le⟩:=r;obtain⟨⟨B,ul,rfl,cs,b2,a3⟩,z⟩:=P;replace a3:ao (·<f) x7 (vL cq) ul:=a3;have bb:=E _ rfl;have YU:ih (RdV f x7 (f+2) le):=O z;have bK:ih (SmL le):=O bb.2;have RV:ih (SmL cq):=O bb.1;replace j:=j.out;rw[jm]at j;replace j:=O j;dsimp only at j;have Qk:=O b2;have Yf:=O a3;clear z E bb cs b2 a3
 go_wp2_with fail
 refine vM ?_;obtain⟨M,hM⟩:=J x7.heap.size;have Rq:ih (f+3<=M):=O (by rw[hM];exact a2);have HM:=O hM;obtain⟨U,T4⟩:∃ca:jd->Array jd,ca=λv=>(ah c6 ⟨v,ic A 0 0,ic A 0 0,ic A 0 0⟩).toArray:=⟨_,rfl⟩
 have bl:ih (∀v,(U v)[35]?=T v):=O (λv=>by rw[T4];exact Ml _ _ _ _ _ V.1 V.2);have Zu:ih (∀v x,(U v).setIfInBounds 35 x=U x):=O (λv x=>by rw[T4];exact Lj _ _ _ _ _ _ V.1);have bm:ih (∀v,(U v).size=73):=O (λv=>by rw[T4];exact fZ _ _ V.1 V.2);have bn:ih (x7.heap[f+1]?=T (ja (U (ic A 0 0)) 37 (0,0))):=O (by rw[T4];exact m);have bo:=O T4;have Up:ih (bL gU cq=A->ov=A):=O (λh=>by have D:=j.out;rw[h]at D;exact D);clear hM T4 m;refine vX (fd:=Tryz.f59) (gf:=185) (lb:=#[jj (T ⟨B,0,A⟩)]) func59 rfl (enters_of func185 ae rfl)
  (vx (N0:=f) (n₀:=f) (m₀:=M) (jh _) cq RV.len B ul x7 (aw a2) (by rw[HM];exact jh _) Qk Yf) (aw a2) (λ_=>rfl) (ya (aw a2) cq)
  (λQl W=>∃R vr,bL gU (Ql.map (·.2))=T R/\df M (f+1) 37 49 5 U x7 W R.length vr (R.flatMap Chg.cells)) (λch W=>ch=bG/\ov=A/\aD (f+1) M x7 W)
  (by rintro Ql a1 B' ⟨R,vr,h1,D⟩ ht;exact⟨R,vr,h1,D.rolls (by rw[HM];exact jh _) ht⟩)
  ⟨[],ic A 0 0,rfl,bn,qF _ _ _ _,aD.refl _ _ _,by rw[HM];exact jh _⟩
  (λtm x=>(tm.setIfInBounds 19 (jj (T ⟨x.1,0,A⟩))).setIfInBounds 4 (jj (T ⟨x.1,0,A⟩))) ?assign ?body ?done ?panic
 case assign=>
  intro l' x a1 K u
  gi_wp2
  exact u
 case panic=>
  rintro D1 ch W hD hP bd;have F:ch=bG/\ov=A/\aD (f+1) M x7 W:=by
   rcases hP with h|⟨Ql,⟨rfl,v,r,e,hk⟩,R,vr,h1,D⟩
   ·exact h
   exact⟨rfl,Up.out (by rw[e];exact mD (.inl hk) h1),D.but⟩
  obtain⟨rfl,F,al⟩:=F;have hO:=SK _ _ bg.out (Kp.ofC (by rw[<-HM];exact al));have Y4:(D1::[]).Nodup:=j4.2 ⟨λh=>by have D:=((H _ bg.out).2 D1 h).1;have:=(ji.1 D).1;omega,Td⟩;exact fG (Ds:=D1::[]) F (H _ hO).1 Y4 (λD' h=>by
   rcases jC.1 h with rfl|h
   ·exact⟨bd,by have:=a2.out;have:=VZ.out;omega⟩
   exact(H _ hO).2 D' h)
 case body=>
  rintro l' Ql ⟨X,xv⟩ a1 ⟨R,vr,ad,Q⟩ ⟨-,⟨rr,Ud⟩,hx⟩ bc ⟨Sy,Ue⟩;obtain⟨a4,ct,Yx⟩:=hx Ql (X,xv) rfl;dsimp only at a4 ct Yx Ud;simp only[j5,p6,kw,pz,jW,oi]at Ud;obtain⟨pX,ej,uX,Za,-,-⟩:=id Yx;obtain⟨pv,cv,rfl⟩:=aO Q.own;have Zt:ih (SmL xv.l):=O (RV.mem (by rw[Ud];simp));obtain⟨m,P⟩:=J R.length;have c9:m<=1000000:=by
   have h1:=sF ad;have D:=congrArg kl Ud;have h3:=RV.len;simp at h1 D;omega
  obtain⟨oc,a5⟩:=J (gU xv.l);have Rp:ih (oc=A->ov=A):=O (λh=>Up.out (by rw[Ud];exact mD (.inr (by rw[<-a5];exact h)) ad));have cw:ih (∀c,oc=T c->bL gU ((Ql++[(X,xv)]).map (·.2))=T (R++[c])):=O (λc h=>by rw[j5];exact rS ad a4 (by rw[<-a5];exact h));obtain⟨l0,bN⟩:=J xv.l;rw[<-bN]at a5 Zt Yx Za;have q:ih (oc=(rI l0).bind λa=>(rI a.2).bind λb=>(rI b.2).bind λc=>(rI c.2).bind λd=>(rI d.2).map λe=>⟨a.1,b.1,c.1,d.1,e.1⟩):=O a5;rw[<-P]at Q;have Tu:=O P;have SF:=O Za;have S:=O Q;obtain⟨z0,Qs⟩:=J a1.drew;have Wv:ih (z0.heap[f+1]?=T (ja (U (ic pv m cv)) 37 (0,0))):=O (by rw[Qs];exact Q.box);have bq:ih (RdV f z0 X l0):=O (Yx.keep (by rw[Qs];rfl) (λk _=>by rw[Qs];rfl));have br:=Zt;have ZI:ih (aD X a1.heap.size a1 z0):=O (by rw[Qs];exact⟨rfl,rfl,rfl,jh _,λ_ _ _=>rfl⟩);have VP:ih (M<=a1.heap.size):=O Q.sz';have db:=Rq.out;clear ad Ud hx Ue a4 Yx Za P a5 bN Q Zt bc Up j Qk Yf;refine wpIn_block ?_;dsimp only;simp only[qi,ki,qj];refine tC (λW'=>W'.heap[f+1]?=T (ja (U (ic pv m cv)) 37 (0,0))) 16 [(0,true),(1,true),(2,true),(4,true),(6,true),(8,true),(10,true),(3,false),(5,false),(7,false),(9,false),(11,false),(12,true),(13,false),(14,false),(15,true),(16,false)] ae ae ae ae rfl (λc a d v w h=>⟨by have:=h.1;rwa [put_defers]at this,h.2⟩) (fun⟨_,_,h⟩=>h) (by rw[<-Qs];exact Wv) ?_;rw[<-Qs];clear Qs;refine ci ?_
  (refine cT (v:=?_) rfl ag (λW' hS=>?_) ?_;rotate_left;(have dd:=cell_of hS (bl _);go_simp;with_reducible rfl);refine G ?_)
  iterate 5 refine ci ?_
  refine aR rfl (λK' u=>?_);go_simp;have t:=O (fC f X Y l0 z0 bq br.len);obtain⟨y,o⟩:=J (rI l0);have E:=O (λr (h:y=T r)=>br.rI (r:=r) (by rw[<-o];exact h));rw[<-o]at t q;clear o;refine t.mono ?_;rintro e z1 ⟨n,Q9⟩;have VC:=O (ZI.trans n ZI.size);have Yv:=O ((n.block (f+1) (ji.1 Wv).1 Y).trans Wv);clear n t ZI Wv bq br
  rcases y with _|r
  ·obtain rfl:e=.panicked bG:=Q9
   have F:ov=A:=Rp q;exact⟨rfl,gt SF VC,rfl,F,gS S.but VC Y VP⟩
  obtain⟨vk,l1⟩:=r;obtain⟨rfl,z⟩:=Q9;have bs:ih (RdV f z1 X l1):=O z;have bu:ih (SmL l1):=O (E _ rfl);replace q:=q.out;rw[jm]at q;replace q:=O q;dsimp only at q;refine u _ _ Yv.out λ_=>?_
  clear u z E;refine G ?_;refine aR rfl (λK' u=>?_);go_simp;have t:=O (fC f X Y l1 z1 bs bu.len);obtain⟨y,o⟩:=J (rI l1);have E:=O (λr (h:y=T r)=>bu.rI (r:=r) (by rw[<-o];exact h));rw[<-o]at t q;clear o;refine t.mono ?_;rintro e z2 ⟨n,Q9⟩;have Yu:=O (VC.trans n VC.size);have bk:=O ((n.block (f+1) (ji.1 Yv).1 Y).trans Yv);clear n t VC Yv bs bu
  rcases y with _|r
  ·obtain rfl:e=.panicked bG:=Q9
   have F:ov=A:=Rp q;exact⟨rfl,gt SF Yu,rfl,F,gS S.but Yu Y VP⟩
  obtain⟨ve,l2⟩:=r;obtain⟨rfl,z⟩:=Q9;have cm:ih (RdV f z2 X l2):=O z;have b3:ih (SmL l2):=O (E _ rfl);replace q:=q.out;rw[jm]at q;replace q:=O q;dsimp only at q;refine u _ _ bk.out λ_=>?_
  clear u z E;refine G ?_;refine aR rfl (λK' u=>?_);go_simp;have t:=O (fC f X Y l2 z2 cm b3.len);obtain⟨y,o⟩:=J (rI l2);have E:=O (λr (h:y=T r)=>b3.rI (r:=r) (by rw[<-o];exact h));rw[<-o]at t q;clear o;refine t.mono ?_;rintro e z3 ⟨n,Q9⟩;have bO:=O (Yu.trans n Yu.size);have cc:=O ((n.block (f+1) (ji.1 bk).1 Y).trans bk);clear n t Yu bk cm b3
  rcases y with _|r
  ·obtain rfl:e=.panicked bG:=Q9
   have F:ov=A:=Rp q;exact⟨rfl,gt SF bO,rfl,F,gS S.but bO Y VP⟩
  obtain⟨vf,l3⟩:=r;obtain⟨rfl,z⟩:=Q9;have cX:ih (RdV f z3 X l3):=O z;have cj:ih (SmL l3):=O (E _ rfl);replace q:=q.out;rw[jm]at q;replace q:=O q;dsimp only at q;refine u _ _ cc.out λ_=>?_
  clear u z E;refine G ?_;refine aR rfl (λK' u=>?_);go_simp;have t:=O (fC f X Y l3 z3 cX cj.len);obtain⟨y,o⟩:=J (rI l3);have E:=O (λr (h:y=T r)=>cj.rI (r:=r) (by rw[<-o];exact h));rw[<-o]at t q;clear o;refine t.mono ?_;rintro e z4 ⟨n,Q9⟩;have aa:=O (bO.trans n bO.size);have ba:=O ((n.block (f+1) (ji.1 cc).1 Y).trans cc);clear n t bO cc cX cj
  rcases y with _|r
  ·obtain rfl:e=.panicked bG:=Q9
   have F:ov=A:=Rp q;exact⟨rfl,gt SF aa,rfl,F,gS S.but aa Y VP⟩
  obtain⟨vg,l4⟩:=r;obtain⟨rfl,z⟩:=Q9;have bw:ih (RdV f z4 X l4):=O z;have bv:ih (SmL l4):=O (E _ rfl);replace q:=q.out;rw[jm]at q;replace q:=O q;dsimp only at q;refine u _ _ ba.out λ_=>?_
  clear u z E;refine G ?_;refine aR rfl (λK' u=>?_);go_simp;have t:=O (fC f X Y l4 z4 bw bv.len);obtain⟨y,o⟩:=J (rI l4);have E:=O (λr (h:y=T r)=>bv.rI (r:=r) (by rw[<-o];exact h));rw[<-o]at t q;clear o;refine t.mono ?_;rintro e z5 ⟨n,Q9⟩;have bf:=O (aa.trans n aa.size);have bA:=O ((n.block (f+1) (ji.1 ba).1 Y).trans ba);clear n t aa ba bw bv
  rcases y with _|r
  ·obtain rfl:e=.panicked bG:=Q9
   have F:ov=A:=Rp q;exact⟨rfl,gt SF bf,rfl,F,gS S.but bf Y VP⟩
  obtain⟨vh,l5⟩:=r;obtain⟨rfl,z⟩:=Q9;have bv:ih (RdV f z5 X l5):=O z;have bw:ih (SmL l5):=O (E _ rfl);replace q:=q.out;rw[jX]at q;replace q:=O q;dsimp only at q;refine u _ _ bA.out λ_=>?_
  clear u z E;refine G ?_;refine ci ?_;refine aR rfl (λK' u=>?_);go_simp;refine u _ _ (av bA (af _ _)) λ_=>?_
  clear u;refine G ?_;have ZH:=S.laterX Y Y SF L bf;have ba:=af z5 (ja #[I N vk,I N ve,I N vf,I N vg,I N vh] 49);have aa:=ZH.later Y ba;refine aR rfl (λK' u=>?_);rw[if_pos ag];refine G3 _ _ rfl M (ic pv m cv) m _ rfl aa.own _ 1 [I N vk,I N ve,I N vf,I N vg,I N vh] rfl (ey z5 [I N vk,I N ve,I N vf,I N vg,I N vh] 49 (0,0) 5 1 1 rfl (jh _)) (by simp[jz]) Y aa.sz' λv' z7 QO=>?_
  have R1:=eh aa.box QO.grown (bW aa.own (.inr Y));obtain⟨pn,cn,rfl⟩:=aO QO.own;have V8:=O R1;have bT:=O QO;have Ux:=O aa;clear ZH aa ba;refine u _ _ R1 λ_=>?_
  clear u R1 QO;refine G ?_;refine ci ?_;obtain⟨⟨vo,c3⟩,f3,-,-⟩:=bH (i:=35) (ic pn (m+1) cn) V8.out (by rw[bm];decide);refine gu rfl (λK' u=>?_);go_simp;refine u _ _ ?_;have b0:=df.push (i:=35) Ux Y bT (Zu _ _);have b4:=(gt (B0:=x7.heap.size) SF bf).trans ((wB _ _ _).trans (wO Ux bT (i:=35)));refine⟨⟨b4,uw S.but b0.but b4.size Y Y⟩,R++[⟨vk,ve,vf,vg,vh⟩],ic pn (m+1) cn,cw _ q.out,?_⟩;rw[jI,List.flatMap_append,<-Tu];exact b0
 case done=>
  rintro D1 xs W hD ⟨R9,a4⟩ ⟨R,vr,ad,Q⟩ bd;rw[R9]at ad;obtain⟨bv,bw,rfl⟩:=aO Q.own;have al:=Q.but;replace j:=j.out;rw[ad,jm]at j;replace j:=O j;have U4:aD (f+1) x7.heap.size x7 W:=by rw[<-HM];exact al
  have b7:ih (RdV f W (f+2) le):=O (YU.keep (U4.block (f+2) YU.lt Y) (λk hk=>U4.block k (aU YU.lt) Y));have b6:=bK;have Vf:ih (W.heap[f+1]?=T (ja (ah c6 ⟨ic bv R.length bw,ic A 0 0,ic A 0 0,ic A 0 0⟩).toArray 37 (0,0))):=O (by have h:=Q.box;rw[bo]at h;exact h);have hO:=SK _ _ bg.out (Kp.ofC U4);have b8:ih (f+3<=W.heap.size):=O (ju a2 al.size);have Y4:(D1::[]).Nodup:=j4.2 ⟨λh=>by have D:=((H _ bg.out).2 D1 h).1;have:=(ji.1 D).1;omega,Td⟩;have bf:D1≠f+1/\D1≠f+2/\w.heap.size<=D1:=by have:=a2.out;have:=VZ.out;omega
  obtain⟨H1,bA⟩:=J W.heap.size;obtain⟨M1,bB⟩:=J M;obtain⟨r1,b5⟩:=J R;rw[<-b5]at Q j Vf;rw[<-bB]at Q;have Qo:ap (λg=>M1<=g/\g<W.heap.size) W (ic bv r1.length bw) 5 r1.length (r1.flatMap Chg.cells):=ap.of_own Q.own (λg hg=>Q.own.lt g hg);obtain⟨O1,Sg⟩:∃Vw:ii->Prop,Vw=λx=>(O0 x/\x.heap[D1]?=T (.deferred (T [])))/\(H1<=x.heap.size/\ap (λg=>M1<=g/\g<H1) x (ic bv r1.length bw) 5 r1.length (r1.flatMap Chg.cells)):=⟨_,rfl⟩
  have bC:ih (Kept (f+1) (f+2) O1):=O (by rw[Sg];exact(SK.and (yQ bf.1 bf.2.1)).and (zt (aw Rq) (aw Rq)));have bI:ih (∀x,O1 x->jk w w x/\∀D'∈D1::[],x.heap[D']?=T (.deferred (T []))/\w.heap.size<=D'):=O (by
   rw[Sg];intro x h;refine⟨(H x h.1.1).1,λD' cx=>?_⟩
   rcases jC.1 cx with rfl|D
   ·exact⟨h.1.2,bf.2.2⟩
   exact(H x h.1.1).2 D' D)
  have Uy:ih (∀x,O1 x->H1<=x.heap.size/\ap (λg=>M1<=g/\g<H1) x (ic bv r1.length bw) 5 r1.length (r1.flatMap Chg.cells)):=O (by rw[Sg];exact λx h=>h.2)
  skip
  have b9:ih (O1 W):=O (by rw[Sg,bA];exact⟨⟨hO,bd⟩,jh _,Qo⟩);have Sk:ih (f+3<=M1/\M1<=H1):=O ⟨by rw[bB];exact Rq,by rw[bA];exact Q.sz'⟩;replace Td:=O Y4;replace SK:=bC;replace H:=bI;clear Q al U4 hO bf Qo bA Sg Y4 bC bI YU bg bK RV Qk Yf Up bn bl Zu bm bo Rq HM a2 R9 a4 ad bB b5 hD bd;rename ii=>x8;refine bh _ _ ?_;clear bh K1;have cd:=De;refine gg λK1 bh=>ib ?_
  have t:=O (tM f (f+2) Y 3 le x8 b7 b6.len);replace j:=j.out;rw[show rL le=(nx 3 le).map (λr=>(r.1.l,r.2))from rfl]at j;obtain⟨y,o⟩:=J (nx 3 le);have E:ih (∀r,y=T r->SmL r.1.l/\SmL r.2):=O (λr h=>by
   have D:=b6.out;obtain⟨e1,-⟩:=kX (o.symm.trans h);rw[e1]at D;exact⟨D.mem (qe ..),D.tail⟩)
  rw[<-o]at t j;replace j:=O j;clear o
  go_wp2_with fail
  refine t.mono ?_;rintro e x9 ⟨n,P⟩;have Yl:=O ((n.block (f+1) (ji.1 Vf).1 Y).trans Vf);have bK:=O (SK _ _ b9.out (Kp.ofR n));have bM:ih (f+3<=x9.heap.size):=O (ju b8 n.size);clear n t b9 Vf b7 b6 b8
  rcases y with _|r
  ·obtain rfl:e=.panicked bG:=P
   have F:ov=A:=j.out;exact fG (Ds:=[D1]) F (H _ bK.out).1 Td (H _ bK.out).2
  obtain⟨xe,lf⟩:=r;obtain⟨⟨ue,rfl,b6⟩,z⟩:=P;obtain⟨pp,ek,rfl⟩:=b6.form;have bb:=E _ rfl;have c5:ih (SmL lf):=O bb.2;have b9:ih (SmL xe.l):=O bb.1;have T0:ih (RdV f x9 (f+2) lf):=O z;replace j:=j.out;rw[jX,jm]at j;replace j:=O j;dsimp only at j;obtain⟨lp,b8⟩:=J xe.l;have a2:=RdV.new (N0:=f) (l:=xe.l) (x:=xe) rfl b6 (aw bM);obtain⟨np,Z1⟩:=J xe.l.length;rw[<-Z1]at a2⊢;rw[<-b8]at a2 b9 j;obtain⟨M,hM⟩:=J x9.heap.size;have bg:=af x9 (ja #[ic pp np ek] 208);obtain⟨y0,b7⟩:=J (x9.alloc (ja #[ic pp np ek] 208));rw[<-b7]at a2 bg;rw[<-hM]at a2;have Rq:ih (f+3<=M):=O (by rw[hM];exact bM);have HM:=O hM;have cb:=O b7;have c7:ih (M<=y0.heap.size):=O (by rw[hM];exact bg.size);obtain⟨U,T4⟩:∃ca:jd->Array jd,ca=λv=>(ah c6 ⟨ic bv r1.length bw,v,ic A 0 0,ic A 0 0⟩).toArray:=⟨_,rfl⟩
  have bl:ih (∀v,(U v)[36]?=T v):=O (λv=>by rw[T4];exact(kV _ _ _ _ _ V.1 V.2).1);have Zu:ih (∀v x,(U v).setIfInBounds 36 x=U x):=O (λv x=>by rw[T4];exact Ec _ _ _ _ _ _ V.1);have bm:ih (∀v,(U v).size=73):=O (λv=>by rw[T4];exact fZ _ _ V.1 V.2);have bn:ih (x9.heap[f+1]?=T (ja (U (ic A 0 0)) 37 (0,0))):=O (by rw[T4];exact Yl);have Y7:ih (df M (f+1) 37 3 1 U x9 y0 0 (ic A 0 0) []):=O ⟨av bn bg,qF _ _ _ _,by rw[hM];exact aD.of_below bg,c7⟩;have dv:ih (RdV f y0 M lp):=O a2;have bo:=O T4;have Up:ih (cR lp=A->ov=A):=O (λh=>by have D:=j.out;rw[h]at D;exact D);clear z b6 bb E b8 a2 Z1 hM bg b7 T4 Yl
  go_wp2_with fail
  refine yV cb ?_;rw[<-HM];clear cb cd;refine gg λK1 bh=>ib ?_
  go_wp2_with fail
  go_loopw [38] (λ_ wr=>∃(dn a2:List Val) (is:List Int) (vr:jd),ih (lp=dn++a2)/\ih (cR dn=T is)/\ih (df M (f+1) 37 3 1 U x9 wr is.length vr (is.map (jb .i64)))/\ih (RdV f wr M a2)) (λ_ wr=>vO M wr)
  case atStart=>exact⟨[],lp,[],ic A 0 0,O rfl,O rfl,Y7,dv⟩
  obtain⟨dn,a2,is,vr,bg,RH,S,QU⟩:=hrel;have ea:ih (SmL a2):=O (b9.suffix bg);have em:ih (∀v r,a2=v::r->v.k≠1->ov=A):=O (λv r e hk=>Up.out (by rw[bg,e];exact zj hk RH));obtain⟨pv,cv,rfl⟩:=aO S.own;obtain⟨m,P⟩:=J is.length;have c9:m<=1000000:=by
   have h1:=Cy RH;have D:=congrArg kl bg;have h3:=b9.len;simp at D;omega
  replace S:=S.out;rw[<-P]at S;replace S:=O S;have Tu:=O P;clear P
  by_cases dr:a2=[]
  case neg=>
   obtain⟨xv,a2,rfl⟩:∃x r,a2=x::r:=by cases a2 with|nil=>exact absurd rfl dr|cons x r=>exact⟨x,r,rfl⟩
   clear dr;obtain⟨p0,ds,e0,h0,-,-⟩:=id QU;obtain⟨nr,b6⟩:=J a2.length;have c0:wr.cell? ⟨M,0,A⟩=T (ic p0 (nr+1) ds):=by rw[b6];exact cell_of h0 rfl
   have d1:decide (0<((nr+1:Nat):Int))=true:=by simp
   have d2:decide (0<(nr:Int)+1)=true:=by simp
   have d3:decide (0<nr+1)=true:=by simp
   have SF:=O h0;have cd:=O b6;clear h0 b6
   go_upto_region 8 with fail
   obtain⟨z0,Qs⟩:=J wr.drew;have Wv:ih (z0.heap[f+1]?=T (ja (U (ic pv m cv)) 37 (0,0))):=O (by rw[Qs];exact S.box);have bq:ih (RdV f z0 M (xv::a2)):=O (QU.keep (by rw[Qs];rfl) (λk _=>by rw[Qs];rfl));have ZI:ih (aD M wr.heap.size wr z0):=O (by rw[Qs];exact⟨rfl,rfl,rfl,jh _,λ_ _ _=>rfl⟩);have db:=Rq.out;clear c0 d1 d2 d3;refine G7 (λW'=>W'.heap[f+1]?=T (ja (U (ic pv m cv)) 37 (0,0))) 6 [(0,true),(1,true),(2,false),(3,false),(4,false),(5,true),(6,false)] ae ae ae ae (by rw[<-Qs];exact Wv) ?_;rw[<-Qs];clear Qs;refine ci ?_
   (refine cT (v:=?_) rfl ag (λW' hS=>?_) ?_;rotate_left;(have dd:=cell_of hS (bl _);go_simp;with_reducible rfl);refine G ?_)
   refine aR rfl (λK' u=>?_);go_simp;have t:=O (fC f M Y (xv::a2) z0 bq ea.len);obtain⟨y,o⟩:=J (rI (xv::a2));have b6:ih ((y=A->xv.k≠1)/\∀r,y=T r->xv.k=1/\r=(xv.n,a2)):=O (by rw[o];exact Mn xv a2);rw[<-o]at t;clear o;refine t.mono ?_;rintro e z1 ⟨n,Q9⟩;have VC:=O (ZI.trans n ZI.size);have Yv:=O ((n.block (f+1) (ji.1 Wv).1 Y).trans Wv);clear n t ZI Wv bq
   rcases y with _|r
   ·obtain rfl:e=.panicked bG:=Q9
    have F:ov=A:=em _ _ rfl (b6.1 rfl);have hO:=SK _ _ bK.out (Kp.ofC (by have h:=gS S.but VC (jh _) S.sz';rw[HM]at h;exact h));intro tt;exact fG (Ds:=[D1]) F (H _ hO).1 Td (H _ hO).2
   obtain⟨b8,rfl⟩:=b6.2 r rfl;obtain⟨rfl,z⟩:=Q9;have bs:ih (RdV f z1 M a2):=O z;obtain⟨vi,b7⟩:=J xv.n;dsimp only;rw[<-b7];have cb:=O b7;have SZ:=O b8;refine u _ _ Yv.out λ_=>?_
   clear u z b6 b7 b8;refine G ?_;refine aR rfl (λK' u=>?_);go_simp;refine u _ _ (av Yv (af _ _)) λ_=>?_
   clear u;refine G ?_;have ZH:=S.laterX Y (jh _) SF L VC;have ba:=af z1 (ja #[I N vi] 3);have aa:=ZH.later Y ba;have b6:=bs.below Y ba;refine aR rfl (λK' u=>?_);rw[if_pos ag];refine EO _ _ rfl M (ic pv m cv) m _ rfl aa.own _ 1 [I N vi] rfl (ey z1 [I N vi] 3 (0,0) 1 1 1 rfl (jh _)) (by simp[jz]) Y aa.sz' λv' z7 QO=>?_
   have R1:=eh aa.box QO.grown (bW aa.own (.inr Y));have b7:RdV f z7 M a2:=b6.keep (QO.grown.block M (by have:=aa.sz';have:=bs.lt;have:=ba.size;omega) (λe=>by
    rcases aa.own.2 with D|⟨g,c8,QF,e1,D,h3,h4⟩
    ·rw[D.1]at e;cases e
    rw[e1]at e;injection e with e
    obtain⟨p9,b8,ce,h9,-,-⟩:=b6;rw[e,h3]at h9;cases h9)) (λk hk=>QO.grown.block k (aU aa.sz') (λe=>by have:=(aa.own.lt k e.symm).1;omega))
   obtain⟨pn,cn,rfl⟩:=aO QO.own;have V8:=O R1;have bT:=O QO;have Ux:=O aa;have b8:=O b7;clear ZH aa ba b6 b7;refine u _ _ R1 λ_=>?_
   clear u R1 QO;refine G ?_;refine ci ?_;obtain⟨⟨vo,c3⟩,f3,-,-⟩:=bH (i:=36) (ic pn (m+1) cn) V8.out (by rw[bm];decide);refine gu rfl (λK' u=>?_);go_simp;refine u _ _ ?_;have b0:=df.push (i:=36) Ux Y bT (Zu _ _);have b6:RdV f (z7.setCell ⟨f+1,36,A⟩ (ic pn (m+1) cn)) M a2:=b8.keep (nh _ Y) (λk hk=>nh _ Y);have b7:=EL b6;have bN:=EL QU;clear c3 f3 u
   go_wp2_with fail
   go_roundw
   case rel=>exact⟨_,_,_,_,_,_,_,_,_,⟨dn++[xv],a2,is++[vi],ic pn (m+1) cn,O (by rw[bg];simp),O (by rw[cb];exact EJ RH SZ),O (by rw[jI,j5,<-Tu];exact b0),O b6⟩,rfl⟩
   case measure=>rw[b7,bN];simp
  subst dr;obtain⟨p0,ds,e0,h0,-,-⟩:=id QU;have c0:wr.cell? ⟨M,0,A⟩=T (ic p0 0 ds):=cell_of h0 rfl;clear h0;have ep:dn=lp:=by have h:=bg.out;rw[qk]at h;exact h.symm
  replace RH:=RH.out;rw[ep]at RH;replace j:=j.out;rw[RH,jm]at j;replace j:=O j;have al:=S.but;have U4:aD (f+1) x9.heap.size x9 wr:=by rw[<-HM];exact al
  have eq:ih (RdV f wr (f+2) lf):=O (T0.keep (U4.block (f+2) T0.lt Y) (λk hk=>U4.block k (aU T0.lt) Y));have cf:=c5;have cb:ih (wr.heap[f+1]?=T (ja (ah c6 ⟨ic bv r1.length bw,ic pv m cv,ic A 0 0,ic A 0 0⟩).toArray 37 (0,0))):=O (by have h:=S.box;rw[bo]at h;exact h);have hO:=SK _ _ bK.out (Kp.ofC U4);have er:ih (f+3<=wr.heap.size):=O (ju bM al.size);obtain⟨Hp,cz⟩:=J wr.heap.size;obtain⟨Mp,cd⟩:=J M;obtain⟨ip,ce⟩:=J is;obtain⟨b6,cA⟩:=J pv;obtain⟨b7,cL⟩:=J cv;have Qo:ap (λg=>Mp<=g/\g<wr.heap.size) wr (ic b6 ip.length b7) 1 ip.length (ip.map (jb .i64)):=by
   rw[cd,ce,cA,cL,<-Tu];exact ap.of_own S.own (λg hg=>S.own.lt g hg)
  rw[Tu,<-ce,<-cA,<-cL]at cb;rw[<-ce]at j;obtain⟨Op,Sg⟩:∃Vw:ii->Prop,Vw=λx=>O1 x/\(Hp<=x.heap.size/\ap (λg=>Mp<=g/\g<Hp) x (ic b6 ip.length b7) 1 ip.length (ip.map (jb .i64))):=⟨_,rfl⟩
  have bC:ih (Kept (f+1) (f+2) Op):=O (by rw[Sg];exact SK.and (zt (aw Rq) (aw Rq)));have bI:ih (∀x,Op x->jk w w x/\∀D'∈[D1],x.heap[D']?=T (.deferred (T []))/\w.heap.size<=D'):=O (by rw[Sg];exact λx h=>H x h.1);have cy:ih (∀x,Op x->Hp<=x.heap.size/\ap (λg=>Mp<=g/\g<Hp) x (ic b6 ip.length b7) 1 ip.length (ip.map (jb .i64))):=O (by rw[Sg];exact λx h=>h.2);have b8:=O (λx (h:Op x)=>Uy x (by rw[Sg]at h;exact h.1));replace Uy:=b8;have ev:ih (Op wr):=O (by rw[Sg,cz];exact⟨hO,jh _,Qo⟩);have e1:ih (f+3<=Mp/\Mp<=Hp):=O ⟨by rw[cd];exact Rq,by rw[cz,cd];exact S.sz'⟩;replace SK:=bC;replace H:=bI;clear b8 ep RH al U4 hO cz cd ce cA cL Qo Sg bC bI QU S bg Tu em ea T0 bK c5 bM b9 Up Y7 dv bn bl Zu bm bo Rq HM c7
  go_wp2_with fail
  clear c0;rename ii=>Y5
  skip
  refine gg λK1 bh=>gg λK2 eg=>ib ?_
  have t:=O (wM f (f+2) Y lf Y5 eq cf.len);obtain⟨y,o⟩:=J (rL lf);have E:=O (λr (h:y=T r)=>cf.rL (r:=r) (by rw[<-o];exact h));rw[<-o]at t j;clear o
  go_wp2_with fail
  refine t.mono ?_;rintro e TE ⟨n,P⟩;have bg:=O ((n.block (f+1) (ji.1 cb).1 Y).trans cb);have cd:=O (SK _ _ ev.out (Kp.ofR n));have b9:ih (f+3<=TE.heap.size):=O (ju er n.size);clear n t ev cb eq cf er
  rcases y with _|r
  ·obtain rfl:e=.panicked bG:=P
   have F:ov=A:=j.out;exact fG (Ds:=[D1]) F (H _ cd.out).1 Td (H _ cd.out).2
  obtain⟨cz,lg⟩:=r;obtain⟨⟨B,ul,rfl,cs,b2,a3⟩,z⟩:=P;replace a3:ao (·<f) TE (vL cz) ul:=a3;have bb:=E _ rfl;have c5:ih (RdV f TE (f+2) lg):=O z;have em:ih (SmL lg):=O bb.2;have RV:ih (SmL cz):=O bb.1;replace j:=j.out;rw[jm]at j;replace j:=O j;dsimp only at j;have Qk:=O b2;have Yf:=O a3;clear z E bb cs b2 a3
  go_wp2_with fail
  refine vM ?_;obtain⟨M,hM⟩:=J TE.heap.size;have Rq:ih (f+3<=M):=O (by rw[hM];exact b9);have HM:=O hM;obtain⟨U,T4⟩:∃ca:jd->Array jd,ca=λv=>(ah c6 ⟨ic bv r1.length bw,ic b6 ip.length b7,v,ic A 0 0⟩).toArray:=⟨_,rfl⟩
  have bl:ih (∀v,(U v)[37]?=T v):=O (λv=>by rw[T4];exact(kV _ _ _ _ _ V.1 V.2).2.1);have Zu:ih (∀v x,(U v).setIfInBounds 37 x=U x):=O (λv x=>by rw[T4];exact uO _ _ _ _ _ _ V.1);have bm:ih (∀v,(U v).size=73):=O (λv=>by rw[T4];exact fZ _ _ V.1 V.2);have bn:ih (TE.heap[f+1]?=T (ja (U (ic A 0 0)) 37 (0,0))):=O (by rw[T4];exact bg);have bo:=O T4;have Up:ih (bL rBx cz=A->ov=A):=O (λh=>by have D:=j.out;rw[h]at D;exact D);clear hM T4 bg;refine vX (fd:=Tryz.f59) (gf:=185) (lb:=#[jj (T ⟨B,0,A⟩)]) func59 rfl (enters_of func185 ae rfl)
   (vx (N0:=f) (n₀:=f) (m₀:=M) (jh _) cz RV.len B ul TE (aw b9) (by rw[HM];exact jh _) Qk Yf) (aw b9) (λ_=>rfl) (ya (aw b9) cz)
   (λQl W=>∃R vr us,bL rBx (Ql.map (·.2))=T R/\cg M (f+1) 37 74 4 Bx.cells Bx.body U TE W R.length vr R us) (λch W=>ch=bG/\ov=A/\aD (f+1) M TE W)
   (by rintro Ql a1 B' ⟨R,vr,us,h1,D⟩ ht;exact⟨R,vr,us,h1,D.rolls (by rw[HM];exact jh _) ht⟩)
   ⟨[],ic A 0 0,[],rfl,cg.start bn.out (by rw[HM];exact jh _)⟩
   (λtm x=>(tm.setIfInBounds 48 (jj (T ⟨x.1,0,A⟩))).setIfInBounds 6 (jj (T ⟨x.1,0,A⟩))) ?assign ?body ?done ?panic
  case assign=>
   intro l' x a1 K u
   gi_wp2
   exact u
  case panic=>
   rintro D2 ch W hD hP bd;have F:ch=bG/\ov=A/\aD (f+1) M TE W:=by
    rcases hP with h|⟨Ql,⟨rfl,v,r,e,hk⟩,R,vr,us,h1,D⟩
    ·exact h
    exact⟨rfl,Up.out (by rw[e];exact mD (.inl hk) h1),D.row.but⟩
   obtain⟨rfl,F,al⟩:=F;have hO:=SK _ _ cd.out (Kp.ofC (by rw[<-HM];exact al));have Y4:(D2::[D1]).Nodup:=j4.2 ⟨λh=>by have D:=((H _ cd.out).2 D2 h).1;have:=(ji.1 D).1;omega,Td⟩;exact fG (Ds:=D2::[D1]) F (H _ hO).1 Y4 (λD' h=>by
    rcases jC.1 h with rfl|h
    ·exact⟨bd,by have:=b9.out;have:=VZ.out;omega⟩
    exact(H _ hO).2 D' h)
  case body=>
   rintro l' Ql ⟨X,xv⟩ a1 ⟨R,vr,us,ad,Q⟩ ⟨-,⟨rr,Ud⟩,hx⟩ bc ⟨Sy,Ue⟩;obtain⟨a4,ct,Yx⟩:=hx Ql (X,xv) rfl;dsimp only at a4 ct Yx Ud;simp only[j5,p6,kw,pz,jW,oi]at Ud;obtain⟨pX,ej,uX,Za,-,-⟩:=id Yx;obtain⟨pv,cv,rfl⟩:=aO Q.row.own;have Zt:ih (SmL xv.l):=O (RV.mem (by rw[Ud];simp));obtain⟨m,P⟩:=J R.length;have c9:m<=1000000:=by
    have h1:=sF ad;have D:=congrArg kl Ud;have h3:=RV.len;simp at h1 D;omega
   obtain⟨oc,a5⟩:=J (rBx xv.l);have Rp:ih (oc=A->ov=A):=O (λh=>Up.out (by rw[Ud];exact mD (.inr (by rw[<-a5];exact h)) ad));have cw:ih (∀c,oc=T c->bL rBx ((Ql++[(X,xv)]).map (·.2))=T (R++[c])):=O (λc h=>by rw[j5];exact rS ad a4 (by rw[<-a5];exact h));obtain⟨l0,bN⟩:=J xv.l;rw[<-bN]at a5 Zt Yx Za;have q:ih (oc=(rI l0).bind λa=>(rI a.2).bind λb=>(rW b.2).map λw=>⟨a.1,b.1,w.1.1,w.1.2⟩):=O a5;rw[<-P]at Q;have Tu:=O P;have SF:=O Za;have S:=O Q;obtain⟨z0,Qs⟩:=J a1.drew;have Wv:ih (z0.heap[f+1]?=T (ja (U (ic pv m cv)) 37 (0,0))):=O (by rw[Qs];exact Q.row.box);have bq:ih (RdV f z0 X l0):=O (Yx.keep (by rw[Qs];rfl) (λk _=>by rw[Qs];rfl));have br:=Zt;have ZI:ih (aD X a1.heap.size a1 z0):=O (by rw[Qs];exact⟨rfl,rfl,rfl,jh _,λ_ _ _=>rfl⟩);have VP:ih (M<=a1.heap.size):=O Q.row.sz';have db:=Rq.out;clear ad Ud hx Ue a4 Yx Za P a5 bN Q Zt bc Up j Qk Yf;refine wpIn_block ?_;dsimp only;simp only[qi,ki,qj];refine tC (λW'=>W'.heap[f+1]?=T (ja (U (ic pv m cv)) 37 (0,0))) 12 [(0,true),(1,true),(2,true),(4,true),(6,true),(3,false),(5,false),(7,false),(8,true),(9,false),(10,false),(11,true),(12,false)] ae ae ae ae rfl (λc a d v w h=>⟨by have:=h.1;rwa [put_defers]at this,h.2⟩) (fun⟨_,_,h⟩=>h) (by rw[<-Qs];exact Wv) ?_;rw[<-Qs];clear Qs;refine ci ?_
   (refine cT (v:=?_) rfl ag (λW' hS=>?_) ?_;rotate_left;(have dd:=cell_of hS (bl _);go_simp;with_reducible rfl);refine G ?_)
   iterate 3 refine ci ?_
   refine aR rfl (λK' u=>?_);go_simp;have t:=O (fC f X Y l0 z0 bq br.len);obtain⟨y,o⟩:=J (rI l0);have E:=O (λr (h:y=T r)=>br.rI (r:=r) (by rw[<-o];exact h));rw[<-o]at t q;clear o;refine t.mono ?_;rintro e z1 ⟨n,Q9⟩;have VC:=O (ZI.trans n ZI.size);have Yv:=O ((n.block (f+1) (ji.1 Wv).1 Y).trans Wv);clear n t ZI Wv bq br
   rcases y with _|r
   ·obtain rfl:e=.panicked bG:=Q9
    have F:ov=A:=Rp q;exact⟨rfl,gt SF VC,rfl,F,gS S.row.but VC Y VP⟩
   obtain⟨vk,l1⟩:=r;obtain⟨rfl,z⟩:=Q9;have bs:ih (RdV f z1 X l1):=O z;have bu:ih (SmL l1):=O (E _ rfl);replace q:=q.out;rw[jm]at q;replace q:=O q;dsimp only at q;refine u _ _ Yv.out λ_=>?_
   clear u z E;refine G ?_;refine aR rfl (λK' u=>?_);go_simp;have t:=O (fC f X Y l1 z1 bs bu.len);obtain⟨y,o⟩:=J (rI l1);have E:=O (λr (h:y=T r)=>bu.rI (r:=r) (by rw[<-o];exact h));rw[<-o]at t q;clear o;refine t.mono ?_;rintro e z2 ⟨n,Q9⟩;have Yu:=O (VC.trans n VC.size);have bk:=O ((n.block (f+1) (ji.1 Yv).1 Y).trans Yv);clear n t VC Yv bs bu
   rcases y with _|r
   ·obtain rfl:e=.panicked bG:=Q9
    have F:ov=A:=Rp q;exact⟨rfl,gt SF Yu,rfl,F,gS S.row.but Yu Y VP⟩
   obtain⟨ve,l2⟩:=r;obtain⟨rfl,z⟩:=Q9;have cm:ih (RdV f z2 X l2):=O z;have b3:ih (SmL l2):=O (E _ rfl);replace q:=q.out;rw[jm]at q;replace q:=O q;dsimp only at q;refine u _ _ bk.out λ_=>?_
   clear u z E;refine G ?_;refine aR rfl (λK' u=>?_);go_simp;have t:=O (DN f X Y l2 z2 cm b3.len);obtain⟨y,o⟩:=J (rW l2);have E:=O (λr (h:y=T r)=>b3.rW (r:=r) (by rw[<-o];exact h));rw[<-o]at t q;clear o;refine t.mono ?_;rintro e z3 ⟨n,Q9⟩;have bO:=O (Yu.trans n Yu.size);have cc:=O ((n.block (f+1) (ji.1 bk).1 Y).trans bk);have cA:=O Yu.size;clear n t Yu bk cm b3
   rcases y with _|r
   ·obtain rfl:e=.panicked bG:=Q9
    have F:ov=A:=Rp q;exact⟨rfl,gt SF bO,rfl,F,gS S.row.but bO Y VP⟩
   obtain⟨vw,l3⟩:=r;obtain⟨⟨ub,rfl,ce⟩,z⟩:=Q9;obtain⟨pb,cb,rfl⟩:=ce.form;have TA:=O ce;obtain⟨bg,bK⟩:=vw;dsimp only at TA q z⊢;obtain⟨bM,cf⟩:=J bK.length;rw[<-cf]at TA⊢;have TC:=O cf;clear cf ce;have cX:ih (RdV f z3 X l3):=O z;have cj:ih (SmL l3):=O (E _ rfl);replace q:=q.out;rw[jX]at q;replace q:=O q;dsimp only at q;refine u _ _ cc.out λ_=>?_
   clear u z E;refine G ?_;refine ci ?_;refine aR rfl (λK' u=>?_);go_simp;refine u _ _ (av cc (af _ _)) λ_=>?_
   clear u;refine G ?_;have ZH:=S.laterX Y Y SF L bO;have ba:=af z3 (ja #[I N vk,I N ve,I N bg,ic pb bM cb] 74);have aa:=ZH.later Y ba;have cL:=(ap.keep TA (λg hg=>ba.block g hg.2)).mono (D':=λg=>M<=g/\g<(z3.alloc (ja #[I N vk,I N ve,I N bg,ic pb bM cb] 74)).heap.size/\(ms pv m cv).ownBlock≠T g) (λg hg=>⟨by have:=cA.out;have:=VP.out;omega,jO hg.2 ba.size,bW S.row.own (.inl (aw cA))⟩);have dv:=O cL;clear cL;refine aR rfl (λK' u=>?_);rw[if_pos ag];refine Bo _ _ rfl M (ic pv m cv) m _ rfl aa.row.own _ 1 [I N vk,I N ve,I N bg,ic pb bM cb] rfl (ey z3 [I N vk,I N ve,I N bg,ic pb bM cb] 74 (0,0) 4 1 1 rfl (jh _)) (by simp[jz]) Y aa.row.sz' λv' z7 QO=>?_
   have R1:=eh aa.row.box QO.grown (bW aa.row.own (.inr Y));obtain⟨pn,cn,rfl⟩:=aO QO.own;have V8:=O R1;have bT:=O QO;have Ux:=O aa;clear ZH aa ba;refine u _ _ R1 λ_=>?_
   clear u R1 QO;refine G ?_;refine ci ?_;obtain⟨⟨vo,c3⟩,f3,-,-⟩:=bH (i:=37) (ic pn (m+1) cn) V8.out (by rw[bm];decide);refine gu rfl (λK' u=>?_);go_simp;refine u _ _ ?_;have b0:=cg.push (i:=37) (x:=(⟨vk,ve,bg,bK⟩:Bx)) Ux Y (by show ap _ _ _ 1 bK.length (bK.map v8);rw[<-TC];exact dv) bT (Zu _ _);have b4:=(gt (B0:=TE.heap.size) SF bO).trans ((wB _ _ _).trans (wO Ux.row bT (i:=37)));refine⟨⟨b4,uw S.row.but b0.row.but b4.size Y Y⟩,R++[⟨vk,ve,bg,bK⟩],ic pn (m+1) cn,us++[ic pb bM cb],cw _ q.out,?_⟩;rw[jI,<-Tu];exact b0
  case done=>
   rintro D2 xs W hD ⟨R9,a4⟩ ⟨R,vr,us,ad,Q⟩ bd;rw[R9]at ad;obtain⟨cc,cj,rfl⟩:=aO Q.row.own;have al:=Q.row.but;replace j:=j.out;rw[ad,jm]at j;replace j:=O j;have U4:aD (f+1) TE.heap.size TE W:=by rw[<-HM];exact al
   have ep:ih (RdV f W (f+2) lg):=O (c5.keep (U4.block (f+2) c5.lt Y) (λk hk=>U4.block k (aU c5.lt) Y));have ea:=em;have c7:ih (W.heap[f+1]?=T (ja (ah c6 ⟨ic bv r1.length bw,ic b6 ip.length b7,ic cc R.length cj,ic A 0 0⟩).toArray 37 (0,0))):=O (by have h:=Q.row.box;rw[bo]at h;exact h);have hO:=SK _ _ cd.out (Kp.ofC U4);have eq:ih (f+3<=W.heap.size):=O (ju b9 al.size);have Y4:(D2::[D1]).Nodup:=j4.2 ⟨λh=>by have D:=((H _ cd.out).2 D2 h).1;have:=(ji.1 D).1;omega,Td⟩;have bf:D2≠f+1/\D2≠f+2/\w.heap.size<=D2:=by have:=b9.out;have:=VZ.out;omega
   obtain⟨H2,bA⟩:=J W.heap.size;obtain⟨M2,bB⟩:=J M;obtain⟨r2,b5⟩:=J R;rw[<-b5]at Q j c7;rw[<-bB]at Q;have Qo:∃us,ap (λg=>M2<=g/\g<W.heap.size) W (ic cc r2.length cj) 4 r2.length (cG Bx.cells r2 us)/\bR (λg=>M2<=g/\g<W.heap.size) W (r2.map Bx.body) us:=Q.slice rfl (λg h1 D=>⟨h1,D⟩);obtain⟨O2,Sg⟩:∃Vw:ii->Prop,Vw=λx=>(Op x/\x.heap[D2]?=T (.deferred (T [])))/\(H2<=x.heap.size/\∃us,ap (λg=>M2<=g/\g<H2) x (ic cc r2.length cj) 4 r2.length (cG Bx.cells r2 us)/\bR (λg=>M2<=g/\g<H2) x (r2.map Bx.body) us):=⟨_,rfl⟩
   have bC:ih (Kept (f+1) (f+2) O2):=O (by rw[Sg];exact(SK.and (yQ bf.1 bf.2.1)).and (AT (aw Rq) (aw Rq)));have bI:ih (∀x,O2 x->jk w w x/\∀D'∈D2::[D1],x.heap[D']?=T (.deferred (T []))/\w.heap.size<=D'):=O (by
    rw[Sg];intro x h;refine⟨(H x h.1.1).1,λD' cx=>?_⟩
    rcases jC.1 cx with rfl|D
    ·exact⟨h.1.2,bf.2.2⟩
    exact(H x h.1.1).2 D' D)
   have Ro:ih (∀x,O2 x->H2<=x.heap.size/\∃us,ap (λg=>M2<=g/\g<H2) x (ic cc r2.length cj) 4 r2.length (cG Bx.cells r2 us)/\bR (λg=>M2<=g/\g<H2) x (r2.map Bx.body) us):=O (by rw[Sg];exact λx h=>h.2);have b8:=O (λx (h:O2 x)=>Uy x (by rw[Sg]at h;exact h.1.1));replace Uy:=b8;clear b8;have cX:=O (λx (h:O2 x)=>cy x (by rw[Sg]at h;exact h.1.1));replace cy:=cX;clear cX;have er:ih (O2 W):=O (by rw[Sg,bA];exact⟨⟨hO,bd⟩,jh _,Qo⟩);have Ru:ih (f+3<=M2/\M2<=H2):=O ⟨by rw[bB];exact Rq,by rw[bA];exact Q.row.sz'⟩;replace Td:=O Y4;replace SK:=bC;replace H:=bI;clear Q al U4 hO bf Qo bA Sg Y4 bC bI c5 cd em RV Qk Yf Up bn bl Zu bm bo Rq HM b9 R9 a4 ad bB b5 hD bd;rename ii=>WK;refine bh _ _ ?_;clear bh K1;refine gg λK1 bh=>gg λK2 eg=>ib ?_
   have t:=O (wM f (f+2) Y lg WK ep ea.len);obtain⟨y,o⟩:=J (rL lg);have E:=O (λr (h:y=T r)=>ea.rL (r:=r) (by rw[<-o];exact h));rw[<-o]at t j;clear o
   go_wp2_with fail
   refine t.mono ?_;rintro e UC ⟨n,P⟩;have em:=O ((n.block (f+1) (ji.1 c7).1 Y).trans c7);have b9:=O (SK _ _ er.out (Kp.ofR n));have bO:ih (f+3<=UC.heap.size):=O (ju eq n.size);clear n t er c7 ep ea eq
   rcases y with _|r
   ·obtain rfl:e=.panicked bG:=P
    have F:ov=A:=j.out;exact fG (Ds:=[D2,D1]) F (H _ b9.out).1 Td (H _ b9.out).2
   obtain⟨cd,lh⟩:=r;obtain⟨⟨B,ul,rfl,cs,b2,a3⟩,z⟩:=P;replace a3:ao (·<f) UC (vL cd) ul:=a3;have bb:=E _ rfl;have c5:ih (RdV f UC (f+2) lh):=O z;have c7:ih (SmL lh):=O bb.2;have RV:ih (SmL cd):=O bb.1;replace j:=j.out;rw[jm]at j;replace j:=O j;dsimp only at j;have Qk:=O b2;have Yf:=O a3;clear z E bb cs b2 a3
   go_wp2_with fail
   refine vM ?_;obtain⟨M,hM⟩:=J UC.heap.size;have Rq:ih (f+3<=M):=O (by rw[hM];exact bO);have HM:=O hM;obtain⟨U,T4⟩:∃ca:jd->Array jd,ca=λv=>(ah c6 ⟨ic bv r1.length bw,ic b6 ip.length b7,ic cc r2.length cj,v⟩).toArray:=⟨_,rfl⟩
   have bl:ih (∀v,(U v)[38]?=T v):=O (λv=>by rw[T4];exact(kV _ _ _ _ _ V.1 V.2).2.2.1);have Zu:ih (∀v x,(U v).setIfInBounds 38 x=U x):=O (λv x=>by rw[T4];exact vK _ _ _ _ _ _ V.1);have bm:ih (∀v,(U v).size=73):=O (λv=>by rw[T4];exact fZ _ _ V.1 V.2);have bn:ih (UC.heap[f+1]?=T (ja (U (ic A 0 0)) 37 (0,0))):=O (by rw[T4];exact em);have bo:=O T4;have Up:ih (bL rWl cd=A->ov=A):=O (λh=>by have D:=j.out;rw[h]at D;exact D);clear hM T4 em;refine vX (fd:=Tryz.f59) (gf:=185) (lb:=#[jj (T ⟨B,0,A⟩)]) func59 rfl (enters_of func185 ae rfl)
    (vx (N0:=f) (n₀:=f) (m₀:=M) (jh _) cd RV.len B ul UC (aw bO) (by rw[HM];exact jh _) Qk Yf) (aw bO) (λ_=>rfl) (ya (aw bO) cd)
    (λQl W=>∃R vr us,bL rWl (Ql.map (·.2))=T R/\cg M (f+1) 37 76 3 Wl.cells Wl.body U UC W R.length vr R us) (λch W=>ch=bG/\ov=A/\aD (f+1) M UC W)
    (by rintro Ql a1 B' ⟨R,vr,us,h1,D⟩ ht;exact⟨R,vr,us,h1,D.rolls (by rw[HM];exact jh _) ht⟩)
    ⟨[],ic A 0 0,[],rfl,cg.start bn.out (by rw[HM];exact jh _)⟩
    (λtm x=>(tm.setIfInBounds 62 (jj (T ⟨x.1,0,A⟩))).setIfInBounds 7 (jj (T ⟨x.1,0,A⟩))) ?assign ?body ?done ?panic
   case assign=>
    intro l' x a1 K u
    gi_wp2
    exact u
   case panic=>
    rintro K ch W hD hP bd;have F:ch=bG/\ov=A/\aD (f+1) M UC W:=by
     rcases hP with h|⟨Ql,⟨rfl,v,r,e,hk⟩,R,vr,us,h1,D⟩
     ·exact h
     exact⟨rfl,Up.out (by rw[e];exact mD (.inl hk) h1),D.row.but⟩
    obtain⟨rfl,F,al⟩:=F;have hO:=SK _ _ b9.out (Kp.ofC (by rw[<-HM];exact al));have Y4:(K::[D2,D1]).Nodup:=j4.2 ⟨λh=>by have D:=((H _ b9.out).2 K h).1;have:=(ji.1 D).1;omega,Td⟩;exact fG (Ds:=K::[D2,D1]) F (H _ hO).1 Y4 (λD' h=>by
     rcases jC.1 h with rfl|h
     ·exact⟨bd,by have:=bO.out;have:=VZ.out;omega⟩
     exact(H _ hO).2 D' h)
   case body=>
    rintro l' Ql ⟨X,xv⟩ a1 ⟨R,vr,us,ad,Q⟩ ⟨-,⟨rr,Ud⟩,hx⟩ bc ⟨Sy,Ue⟩;obtain⟨a4,ct,Yx⟩:=hx Ql (X,xv) rfl;dsimp only at a4 ct Yx Ud;simp only[j5,p6,kw,pz,jW,oi]at Ud;obtain⟨pX,ej,uX,Za,-,-⟩:=id Yx;obtain⟨pv,cv,rfl⟩:=aO Q.row.own;have Zt:ih (SmL xv.l):=O (RV.mem (by rw[Ud];simp));obtain⟨m,P⟩:=J R.length;have c9:m<=1000000:=by
     have h1:=sF ad;have D:=congrArg kl Ud;have h3:=RV.len;simp at h1 D;omega
    obtain⟨oc,a5⟩:=J (rWl xv.l);have Rp:ih (oc=A->ov=A):=O (λh=>Up.out (by rw[Ud];exact mD (.inr (by rw[<-a5];exact h)) ad));have cw:ih (∀c,oc=T c->bL rWl ((Ql++[(X,xv)]).map (·.2))=T (R++[c])):=O (λc h=>by rw[j5];exact rS ad a4 (by rw[<-a5];exact h));obtain⟨l0,bN⟩:=J xv.l;rw[<-bN]at a5 Zt Yx Za;have q:ih (oc=(rI l0).bind λa=>(rW a.2).map λw=>⟨a.1,w.1.1,w.1.2⟩):=O a5;rw[<-P]at Q;have Tu:=O P;have SF:=O Za;have S:=O Q;obtain⟨z0,Qs⟩:=J a1.drew;have Wv:ih (z0.heap[f+1]?=T (ja (U (ic pv m cv)) 37 (0,0))):=O (by rw[Qs];exact Q.row.box);have bq:ih (RdV f z0 X l0):=O (Yx.keep (by rw[Qs];rfl) (λk _=>by rw[Qs];rfl));have br:=Zt;have ZI:ih (aD X a1.heap.size a1 z0):=O (by rw[Qs];exact⟨rfl,rfl,rfl,jh _,λ_ _ _=>rfl⟩);have VP:ih (M<=a1.heap.size):=O Q.row.sz';have db:=Rq.out;clear ad Ud hx Ue a4 Yx Za P a5 bN Q Zt bc Up j Qk Yf;refine wpIn_block ?_;dsimp only;simp only[qi,ki,qj];refine tC (λW'=>W'.heap[f+1]?=T (ja (U (ic pv m cv)) 37 (0,0))) 10 [(0,true),(1,true),(2,true),(4,true),(3,false),(5,false),(6,true),(7,false),(8,false),(9,true),(10,false)] ae ae ae ae rfl (λc a d v w h=>⟨by have:=h.1;rwa [put_defers]at this,h.2⟩) (fun⟨_,_,h⟩=>h) (by rw[<-Qs];exact Wv) ?_;rw[<-Qs];clear Qs;refine ci ?_
    (refine cT (v:=?_) rfl ag (λW' hS=>?_) ?_;rotate_left;(have dd:=cell_of hS (bl _);go_simp;with_reducible rfl);refine G ?_)
    iterate 2 refine ci ?_
    refine aR rfl (λK' u=>?_);go_simp;have t:=O (fC f X Y l0 z0 bq br.len);obtain⟨y,o⟩:=J (rI l0);have E:=O (λr (h:y=T r)=>br.rI (r:=r) (by rw[<-o];exact h));rw[<-o]at t q;clear o;refine t.mono ?_;rintro e z1 ⟨n,Q9⟩;have VC:=O (ZI.trans n ZI.size);have Yv:=O ((n.block (f+1) (ji.1 Wv).1 Y).trans Wv);clear n t ZI Wv bq br
    rcases y with _|r
    ·obtain rfl:e=.panicked bG:=Q9
     have F:ov=A:=Rp q;exact⟨rfl,gt SF VC,rfl,F,gS S.row.but VC Y VP⟩
    obtain⟨vk,l1⟩:=r;obtain⟨rfl,z⟩:=Q9;have bs:ih (RdV f z1 X l1):=O z;have bu:ih (SmL l1):=O (E _ rfl);replace q:=q.out;rw[jm]at q;replace q:=O q;dsimp only at q;refine u _ _ Yv.out λ_=>?_
    clear u z E;refine G ?_;refine aR rfl (λK' u=>?_);go_simp;have t:=O (DN f X Y l1 z1 bs bu.len);obtain⟨y,o⟩:=J (rW l1);have E:=O (λr (h:y=T r)=>bu.rW (r:=r) (by rw[<-o];exact h));rw[<-o]at t q;clear o;refine t.mono ?_;rintro e z2 ⟨n,Q9⟩;have Yu:=O (VC.trans n VC.size);have bk:=O ((n.block (f+1) (ji.1 Yv).1 Y).trans Yv);have cA:=O VC.size;clear n t VC Yv bs bu
    rcases y with _|r
    ·obtain rfl:e=.panicked bG:=Q9
     have F:ov=A:=Rp q;exact⟨rfl,gt SF Yu,rfl,F,gS S.row.but Yu Y VP⟩
    obtain⟨vw,l2⟩:=r;obtain⟨⟨ub,rfl,ce⟩,z⟩:=Q9;obtain⟨pb,cb,rfl⟩:=ce.form;have TA:=O ce;obtain⟨bg,bK⟩:=vw;dsimp only at TA q z⊢;obtain⟨bM,cf⟩:=J bK.length;rw[<-cf]at TA⊢;have TC:=O cf;clear cf ce;have cm:ih (RdV f z2 X l2):=O z;have b3:ih (SmL l2):=O (E _ rfl);replace q:=q.out;rw[jX]at q;replace q:=O q;dsimp only at q;refine u _ _ bk.out λ_=>?_
    clear u z E;refine G ?_;refine ci ?_;refine aR rfl (λK' u=>?_);go_simp;refine u _ _ (av bk (af _ _)) λ_=>?_
    clear u;refine G ?_;have ZH:=S.laterX Y Y SF L Yu;have ba:=af z2 (ja #[I N vk,I N bg,ic pb bM cb] 76);have aa:=ZH.later Y ba;have cL:=(ap.keep TA (λg hg=>ba.block g hg.2)).mono (D':=λg=>M<=g/\g<(z2.alloc (ja #[I N vk,I N bg,ic pb bM cb] 76)).heap.size/\(ms pv m cv).ownBlock≠T g) (λg hg=>⟨by have:=cA.out;have:=VP.out;omega,jO hg.2 ba.size,bW S.row.own (.inl (aw cA))⟩);have dv:=O cL;clear cL;refine aR rfl (λK' u=>?_);rw[if_pos ag];refine Av _ _ rfl M (ic pv m cv) m _ rfl aa.row.own _ 1 [I N vk,I N bg,ic pb bM cb] rfl (ey z2 [I N vk,I N bg,ic pb bM cb] 76 (0,0) 3 1 1 rfl (jh _)) (by simp[jz]) Y aa.row.sz' λv' z7 QO=>?_
    have R1:=eh aa.row.box QO.grown (bW aa.row.own (.inr Y));obtain⟨pn,cn,rfl⟩:=aO QO.own;have V8:=O R1;have bT:=O QO;have Ux:=O aa;clear ZH aa ba;refine u _ _ R1 λ_=>?_
    clear u R1 QO;refine G ?_;refine ci ?_;obtain⟨⟨vo,c3⟩,f3,-,-⟩:=bH (i:=38) (ic pn (m+1) cn) V8.out (by rw[bm];decide);refine gu rfl (λK' u=>?_);go_simp;refine u _ _ ?_;have b0:=cg.push (i:=38) (x:=(⟨vk,bg,bK⟩:Wl)) Ux Y (by show ap _ _ _ 1 bK.length (bK.map v8);rw[<-TC];exact dv) bT (Zu _ _);have b4:=(gt (B0:=UC.heap.size) SF Yu).trans ((wB _ _ _).trans (wO Ux.row bT (i:=38)));refine⟨⟨b4,uw S.row.but b0.row.but b4.size Y Y⟩,R++[⟨vk,bg,bK⟩],ic pn (m+1) cn,us++[ic pb bM cb],cw _ q.out,?_⟩;rw[jI,<-Tu];exact b0
   case done=>
    rintro K xs W hD ⟨R9,a4⟩ ⟨R,vr,us,ad,Q⟩ bd;rw[R9]at ad;obtain⟨a1,a3,rfl⟩:=aO Q.row.own;have al:=Q.row.but;replace j:=j.out;rw[ad,jm]at j;replace j:=O j;have U4:aD (f+1) UC.heap.size UC W:=by rw[<-HM];exact al
    have bb:ih (RdV f W (f+2) lh):=O (c5.keep (U4.block (f+2) c5.lt Y) (λk hk=>U4.block k (aU c5.lt) Y));have a5:=c7;have d:ih (W.heap[f+1]?=T (ja (ah c6 ⟨ic bv r1.length bw,ic b6 ip.length b7,ic cc r2.length cj,ic a1 R.length a3⟩).toArray 37 (0,0))):=O (by have h:=Q.row.box;rw[bo]at h;exact h);have hO:=SK _ _ b9.out (Kp.ofC U4);have br:ih (f+3<=W.heap.size):=O (ju bO al.size);have Y4:(K::[D2,D1]).Nodup:=j4.2 ⟨λh=>by have D:=((H _ b9.out).2 K h).1;have:=(ji.1 D).1;omega,Td⟩;have bf:K≠f+1/\K≠f+2/\w.heap.size<=K:=by have:=bO.out;have:=VZ.out;omega
    obtain⟨H3,bA⟩:=J W.heap.size;obtain⟨M3,bB⟩:=J M;obtain⟨X,b5⟩:=J R;rw[<-b5]at Q j d;rw[<-bB]at Q;have Qo:∃us,ap (λg=>M3<=g/\g<W.heap.size) W (ic a1 X.length a3) 3 X.length (cG Wl.cells X us)/\bR (λg=>M3<=g/\g<W.heap.size) W (X.map Wl.body) us:=Q.slice rfl (λg h1 D=>⟨h1,D⟩);obtain⟨O3,Sg⟩:∃Vw:ii->Prop,Vw=λx=>(O2 x/\x.heap[K]?=T (.deferred (T [])))/\(H3<=x.heap.size/\∃us,ap (λg=>M3<=g/\g<H3) x (ic a1 X.length a3) 3 X.length (cG Wl.cells X us)/\bR (λg=>M3<=g/\g<H3) x (X.map Wl.body) us):=⟨_,rfl⟩
    have bC:ih (Kept (f+1) (f+2) O3):=O (by rw[Sg];exact(SK.and (yQ bf.1 bf.2.1)).and (AT (aw Rq) (aw Rq)));have bI:ih (∀x,O3 x->jk w w x/\∀D'∈K::[D2,D1],x.heap[D']?=T (.deferred (T []))/\w.heap.size<=D'):=O (by
     rw[Sg];intro x h;refine⟨(H x h.1.1).1,λD' cx=>?_⟩
     rcases jC.1 cx with rfl|D
     ·exact⟨h.1.2,bf.2.2⟩
     exact(H x h.1.1).2 D' D)
    have bq:ih (∀x,O3 x->H3<=x.heap.size/\∃us,ap (λg=>M3<=g/\g<H3) x (ic a1 X.length a3) 3 X.length (cG Wl.cells X us)/\bR (λg=>M3<=g/\g<H3) x (X.map Wl.body) us):=O (by rw[Sg];exact λx h=>h.2);have b8:=O (λx (h:O3 x)=>Uy x (by rw[Sg]at h;exact h.1.1));replace Uy:=b8;clear b8;have cX:=O (λx (h:O3 x)=>cy x (by rw[Sg]at h;exact h.1.1));replace cy:=cX;clear cX;have q:=O (λx (h:O3 x)=>Ro x (by rw[Sg]at h;exact h.1.1));replace Ro:=q;clear q;have bg:ih (O3 W):=O (by rw[Sg,bA];exact⟨⟨hO,bd⟩,jh _,Qo⟩);have RP:ih (f+3<=M3/\M3<=H3):=O ⟨by rw[bB];exact Rq,by rw[bA];exact Q.row.sz'⟩;replace Td:=O Y4;replace SK:=bC;replace H:=bI;clear Q al U4 hO bf Qo bA Sg Y4 bC bI c5 b9 c7 RV Qk Yf Up bn bl Zu bm bo Rq HM bO R9 a4 ad bB b5 hD bd;rename ii=>x14;refine bh _ _ ?_;clear bh K1;refine gg λK1 bh=>ib ?_
    obtain⟨Q,aa⟩:∃q:CQ,q=⟨ic bv r1.length bw,ic b6 ip.length b7,ic cc r2.length cj,ic a1 X.length a3⟩:=⟨_,rfl⟩;rw[<-aa]at d;have bk:=O aa;clear aa;have t:=O (BX (f) (f+2) Y lh x14 bb a5.len);obtain⟨y,o⟩:=J (rD lh);have E:=O (λr (h:y=T r)=>a5.rD (r:=r) (by rw[<-o];exact h));rw[<-o]at t j;have R3:ih (∀r,y=T r->r.1.length=32):=O (λr h=>(ui (by rw[<-o];exact h)).2);clear o
    go_wp2_with fail
    refine t.mono ?_;rintro e aa ⟨n,P⟩;have ba:=O ((n.block (f+1) (ji.1 d).1 Y).trans d);have a4:=O (SK _ _ bg.out (Kp.ofR n));clear n t bg d bb a5
    rcases y with _|r
    ·obtain rfl:e=.panicked bG:=P
     have F:ov=A:=j.out;exact fG (Ds:=[K,D2,D1]) F (H _ a4.out).1 Td (H _ a4.out).2
    obtain⟨d,li⟩:=r;obtain⟨rfl,z⟩:=P;have a5:ih (RdV f aa (f+2) li):=O z;have bg:ih (SmL li):=O (E _ rfl);replace j:=j.out;rw[jm]at j;replace j:=O j;dsimp only at j;clear z E;have ad:ih (d.length=32):=O (R3 _ rfl);clear R3;have bc:(jf.info? 23).map (·.size)=T (d.map v8).toArray.size:=by rw[show(d.map v8).toArray.size=(d.map v8).length from jJ ..,jw,ad];kernel_rfl
    have cp:aa.there (f+1) 39 (d.map v8).toArray.size:=lZ ba.out (by rw[fZ _ _ V.1 V.2,show(d.map v8).toArray.size=(d.map v8).length from jJ ..,jw,ad];decide);have g2:=ze (d.map v8) 39 _ _ ba.out;rw[Pp _ _ _ V.1 V.2 ad]at g2;have Rh:=Fw (f+1) aa.heap.size (d.map v8) 39 aa;have bb:=O g2;have bf:=O (a5.keep (w':=aa.setCells (f+1) 39 (d.map v8)) (Rh.block (f+2) a5.lt Y) (λk hk=>Rh.block k (aU a5.lt) Y));have k:=O (SK _ _ a4.out (Kp.ofC Rh));have ck:=O cp;have QH:=O bc;clear g2 Rh cp bc ba a5 a4;have ba:=bg;clear bg
    go_wp2_with (refine jn rfl λ_ u=>qn 23 _ _ rfl (f+1) 39 (d.map v8).toArray rfl rfl ck QH (dB d) (u _ _ ?_);rw[show(d.map v8).toArray.toList=d.map v8 from rfl])
    generalize aa.setCells (f+1) 39 (d.map v8)=Zb at bb bf k⊢;have a4:=bb;have bg:=bf;have bl:=k;clear bb bf k ck QH;obtain⟨c7,a5⟩:∃c:Cmt,c={c6 with confirm:=d}:=⟨_,rfl⟩;rw[<-a5]at a4;have VQ:=O a5;have k:ih (c7.parent.length=32/\c7.confirm.length=32):=O (by rw[a5];exact⟨V.1,ad⟩);clear a5;refine gg λK1 bh=>ib ?_
    have t:=O (fC (f) (f+2) Y li Zb bg ba.len);obtain⟨y,o⟩:=J (rI li);have E:=O (λr (h:y=T r)=>ba.rI (r:=r) (by rw[<-o];exact h));rw[<-o]at t j;clear o
    go_wp2_with fail
    refine t.mono ?_;rintro e bf ⟨n,P⟩;have bb:=O ((n.block (f+1) (ji.1 a4).1 Y).trans a4);have a5:=O (SK _ _ bl.out (Kp.ofR n));clear n t bl a4 bg ba
    rcases y with _|r
    ·obtain rfl:e=.panicked bG:=P
     have F:ov=A:=j.out;exact fG (Ds:=[K,D2,D1]) F (H _ a5.out).1 Td (H _ a5.out).2
    obtain⟨vr,lj⟩:=r;obtain⟨rfl,z⟩:=P;have bg:ih (RdV f bf (f+2) lj):=O z;have ba:ih (SmL lj):=O (E _ rfl);replace j:=j.out;rw[jm]at j;replace j:=O j;dsimp only at j;clear z E;have t:=O (fC (f) (f+2) Y lj bf bg ba.len);obtain⟨y,o⟩:=J (rI lj);have E:=O (λr (h:y=T r)=>ba.rI (r:=r) (by rw[<-o];exact h));rw[<-o]at t j;clear o
    go_wp2_with fail
    refine t.mono ?_;rintro e o ⟨n,P⟩;have bl:=O ((n.block (f+1) (ji.1 bb).1 Y).trans bb);have a4:=O (SK _ _ a5.out (Kp.ofR n));clear n t a5 bb bg ba
    rcases y with _|r
    ·obtain rfl:e=.panicked bG:=P
     have F:ov=A:=j.out;exact fG (Ds:=[K,D2,D1]) F (H _ a4.out).1 Td (H _ a4.out).2
    obtain⟨n,lk⟩:=r;obtain⟨rfl,z⟩:=P;have t:ih (RdV f o (f+2) lk):=O z;have a5:ih (SmL lk):=O (E _ rfl);replace j:=j.out;rw[jX]at j;replace j:=O j;dsimp only at j;clear z E;have b1:=fun(c:Cmt) (q:CQ) (h1:c.parent.length=32) (D:c.confirm.length=32)=>fZ c q h1 D
    obtain⟨⟨v0,c0⟩,f0,g0,o0⟩:=bH (i:=71) (I N vr) bl.out (by rw[b1 _ _ k.1 k.2];decide);rw[N4 _ _ _ k.1 k.2]at g0;obtain⟨⟨v1,c1⟩,f1,g1,o1⟩:=bH (i:=72) (I N n) g0 (by rw[b1 {c7 with r:=vr} Q k.1 k.2];decide);rw[OH {c7 with r:=vr} Q n k.1 k.2]at g1;have Rh:aD (f+1) o.heap.size o ((o.setCell ⟨f+1,71,A⟩ (I N vr)).setCell ⟨f+1,72,A⟩ (I N n)):=(o6 (f+1) o.heap.size 71 (I N vr) o).trans (o6 (f+1) o.heap.size 72 (I N n) _) (jh _);have z:=O g1;have F:=O (SK _ _ a4.out (Kp.ofC Rh));clear g0 g1 o0 o1 Rh bl t a4 a5 b1
    go_wp2_with fail
    generalize(o.setCell ⟨f+1,71,A⟩ (I N vr)).setCell ⟨f+1,72,A⟩ (I N n)=ZJ at z F⊢;have E:=z;have t:=F;clear z F c0 f0 c1 f1;obtain⟨z,F⟩:∃c:Cmt,c=⟨va,vb,vp,vd,r1,ip,r2,X,d,vr,n⟩:=⟨_,rfl⟩;have e8:ah {c7 with r:=vr,s:=n} Q=ah z Q:=by rw[F,VQ,ed];rfl
    replace E:ZJ.heap[f+1]?=T (ja (ah z Q).toArray 37 (0,0)):=by rw[<-e8];exact E
    have a4:ay (λg=>w.heap.size<=g/\g<ZJ.heap.size) ZJ z Q:=by
     rw[F,bk];have a5:=Uy _ t.out;have ba:=cy _ t.out;obtain⟨s3,bb,bg,b3⟩:=Ro _ t.out;obtain⟨s4,bl,bm,b4⟩:=bq _ t.out;have h0:=VZ.out;have h1:=Sk.out;have D:=e1.out;have h3:=Ru.out;have h4:=RP.out;have h5:=V.1;refine⟨a5.2.mono λg hg=>?_,ba.2.mono λg hg=>?_,⟨bb,bg.mono λg hg=>?_,b3.mono λg hg=>?_⟩,⟨bl,bm.mono λg hg=>?_,b4.mono λg hg=>?_⟩,?_,ad⟩
     ·exact⟨by omega,by omega⟩
     ·exact⟨by omega,by omega⟩
     ·exact⟨by omega,by omega⟩
     ·exact⟨by omega,by omega⟩
     ·exact⟨by omega,by omega⟩
     ·exact⟨by omega,by omega⟩
     have e:=congrArg Cmt.parent ed;rw[show({dP with folder:=va,epoch:=vb,parent:=vp,author:=vd}:Cmt).parent=vp from rfl]at e;rw[<-e];exact h5
    obtain⟨XR,g⟩:=J ((ah z Q).toArray);have ba:=E;have bc:(jf.info? 37).map (·.size)=T XR.size:=by rw[g,fZ _ _ a4.plen a4.clen];exact fa
    have bb:XR.all (·.oneCell')=true:=by rw[g,bk];exact lA _ _ _ _ _ _ _ _ _ _ _ _ _
    rw[<-g]at ba;have a5:=O ba;have QH:=O bc;have S4:=O bb;have bl:=O a4;have bm:=O g;have bg:ov=T z:=by rw[j,F]
    have UZ:=O bg;clear ba bc bb a4 g bg E e8 F j;refine ib ?_
    go_wp2_with (first|(refine jK rfl 37 _ rfl (f+1) rfl 37 XR (0,0) _ a5.out jV rfl QH ?_)|(refine jn rfl λ_ u=>jp 37 _ _ rfl (f+1) XR rfl rfl 37 _ a5.out QH rfl S4 (u _ _ ?_)))
    rw[du a5];exact Hc (C:=f+1) (Ds:=[K,D2,D1]) UZ (H _ t.out).1 Td (H _ t.out).2 (by rw[<-bm];exact a5) rfl bl
end
theorem Eg{P:jM}{fn:Func}{p q:Tmp}{c f:jB}(h:fn.results= #[.cell p c,.cell q f])(tmps:Array jd)(w:ii)(g i:Nat)(t:jB)(cs:Array jd)(x:jd)(fr:Nat×Nat)(d:TypeDesc)
 (j:tmps.getD p js=jj (T ⟨g,0,A⟩)) (k:tmps.getD q js=jj (T ⟨i,0,A⟩)) (l:w.heap[g]?=T (ja cs t fr)) (m:(loadVar f ⟨i,0,A⟩).run P w=.ok x w)
 (n:P.underlying c=T d) (o:(match d with| .struct _ | .array _ _=>true|_=>false)=true) (r:(P.info? c).map (·.size)=T cs.size):
 (results fn tmps).run P w=.ok (jt #[je cs,x]) w:=by
 have e:(results fn tmps).run P w=((asAddr (tmps.getD p js)).run P w).andThen λa s=>((loadVar c a).run P s).andThen λv u=>((asAddr (tmps.getD q js)).run P u).andThen λb y=>((loadVar f b).run P y).andThen λz B=>.ok (jt #[v,z]) B:=by
  simp only[results,h];simp[Sem.run_bind,Result.andThen]
 rw[e,j];simp only[asAddr,Sem.run_pure,Result.andThen_ok,run_loadVar_row w g t c cs fr d l n o r,k,m]
theorem BO{w:ii}{g:Nat}{n:Int}{t:jB}{f:Nat×Nat}(h:w.heap[g]?=T (ja #[I N n] t f)):(loadVar 41 ⟨g,0,A⟩).run jf w=.ok (I N n) w:=by
 have c:=cell_of (i:=0) h rfl;go_simp
def ZC:Array jd:=(ah dP fk).toArray
theorem mq:(jf.info? 37).map (·.size)=T ZC.size:=by kernel_rfl
theorem nP:ZC.size=73:=by rfl
theorem rh:ZC.all (·.oneCell')=true:=lA dP A A A A 0 0 0 0 0 0 0 0
theorem Bq(w:ii):(Instr.build 37 #[]).run jf w=.ok (je ZC) w:=by
 unfold Instr.build;go_simp
 rfl
theorem MU:∀W,(Instr.typeAssert (.iface 123 (je #[])) 20 123 true).run jf W=.ok (jt #[je #[],.bool true]) W:=λ_=>by kernel_rfl
theorem yW(C E:Nat)(w:ii):CallsD jf 58 #[jj (T ⟨C,0,A⟩),jj (T ⟨E,0,A⟩)] .returning w λe b w'=>e=jl (jt #[])/\b=.returning/\w'=w:=by
 refine callsD_of_wpS func58 rfl λc cs a=>?_
 apply wpS_seq
 apply j8
 simp[wpOpsS,go_sem,recoverD,a,ntmps58,Exit.thenS]
 apply wpS_seq
 apply j8
 simp[wpOpsS,go_sem,recoverD,a,ntmps58,Exit.thenS];refine wpS_cond (t:=false) (by simp[Act.eval,jP]) ?_;simp only[qv,if_false];refine wpS_of_wp (wp_skip ?_)
 cases c
 simp_all [bodyPostS,results,results58]
theorem G6(C E:Nat)(l:C≠E)(g:Array jd)(s:g.size=73)(x:jd)(m:List jZ)(w:ii)(d:w.heap[C]?=T (ja g 37 (0,0)))(f:w.heap[E]?=T (ja #[x] 41 (0,0))):
 CallsD jf 58 #[jj (T ⟨C,0,A⟩),jj (T ⟨E,0,A⟩)] (.panicking ({v:=.iface 123 (je #[]),recovered:=false}::m)) w λe u w'=>
  e=jl (jt #[])/\u=.panicking ({v:=.iface 123 (je #[]),recovered:=true}::m)/\w'.heap[C]?=T (ja ZC 37 (0,0))/\w'.heap[E]?=T (ja #[I N 220] 41 (0,0))/\
  (w'.os=w.os/\w'.tape=w.tape/\w'.output=w.output/\w.heap.size<=w'.heap.size/\∀k,k<w.heap.size->k≠C->k≠E->w'.heap[k]?=w.heap[k]?):=by
 refine callsD_of_wpS func58 rfl λy cs n=>?_
 apply wpS_seq
 apply j8
 simp[wpOpsS,go_sem,recoverD,n,ntmps58,Exit.thenS]
 apply wpS_seq
 apply j8
 simp[wpOpsS,go_sem,recoverD,n,ntmps58,Exit.thenS];refine wpS_cond (t:=true) (by simp[Act.eval,jP]) ?_;simp only[if_true];refine wpS_of_wp (show Code.wp _ _ _ {tmps:=#[jj (T ⟨C,0,A⟩),jj (T ⟨E,0,A⟩),.iface 123 (je #[]),js,js,.iface 123 (je #[]),.iface 123 (je #[]),.bool true,js,js,js,js,js,js,js,js,js],defers:=[]} _ from ?_);have z:=MU;have B:=Bq;have c:=af w (ja #[] 123);obtain⟨a,h⟩:=J (w.alloc (ja #[] 123));rw[<-h]at c;have o:=(c.block C (ji.1 d).1).trans d;have p:=(c.block E (ji.1 f).1).trans f;have j:=O o;have q:=O p;have b:=O c;have r:=O h;have D:=O (ji.1 d).1;clear d f o p c h
 go_upto_region 3 with fail
 rw[<-r];clear r;have o:=(jy a C E ZC (Ne.symm l)).trans q;obtain⟨⟨S,F⟩,H,d,h⟩:=bH (i:=0) (I N 220) o ar;have f:=(h.block C l).trans (jv a C _ ZC _ _ j.out);have p:=O f;have r:=O d;have c:=O h;clear o d h f
 go_wp2_with (refine jn rfl λ_ h=>jp 37 _ _ rfl C ZC rfl rfl 37 g j mq (s.trans nP.symm) rh (h _ _ ?_))
 have f:=p.out;have d:=r.out;have h:∀k,k<w.heap.size->k≠C->k≠E->((a.setRow C ZC).setCell ⟨E,0,A⟩ (I N 220)).heap[k]?=w.heap[k]?:=λk hk o K=>(c.block k K).trans ((jy _ _ _ _ o).trans (b.block k hk))
 have M:w.heap.size<=((a.setRow C ZC).setCell ⟨E,0,A⟩ (I N 220)).heap.size:=by rw[c.size,show(a.setRow C ZC).heap.size=a.heap.size by simp[lm]];exact b.size
 have P:=c.os.trans b.os;have Q:=c.tape.trans b.tape;have R:=c.output.trans b.output;generalize(a.setRow C ZC).setCell ⟨E,0,A⟩ (I N 220)=U at f d h M P Q R⊢;clear F H c p r b j q D z B
 cases y
 simp_all [bodyPostS,results,results58]
def Af(w:ii)(o:Option Cmt)(e:jG)(w':ii):Prop:=
 jk w w w'/\match o with
  |some c=>∃q,e=jl (jt #[je (ah c q).toArray,I N 0])/\ay (λg=>w.heap.size<=g/\g<w'.heap.size) w' c q
  |none=>∃n:Int,n≠0/\e=jl (jt #[je (ah dP fk).toArray,I N n])
theorem Jo{l:LBy}{v:Val}(i:l.length<=800000)(h:dec l=T v):SmL v.l:=by
 obtain⟨e,c⟩:=zN Y h;obtain⟨k,n,s,a⟩:=v
 by_cases hk:k=3
 ·subst hk
  obtain⟨g,-,-,-,b⟩:=nY c rfl;refine⟨g,b,?_⟩;have d:enc (.mk 3 n s a)=3#8::(aZ a.length++encs a):=by rw[enc,if_neg L,if_neg L]
  rw[d]at e;have f:=congrArg kl e;rw[pa,jI]at f;show(encs a).length<=_;omega
 have e:a=[]:=by
  rw[wfV]at c
  rcases c with⟨-,-,-,-,b⟩|⟨-,-,-,b⟩|⟨b,-⟩<;>first|exact b|exact absurd b hk
 subst e;exact⟨0,(λy b=>by cases b),by show(encs []).length<=_;simp[encs]⟩
theorem ap.bytesL{D:Nat->Prop}{w:ii}{v:jd}{l:LBy}(h:ap D w v 1 l.length (l.map v8)):BytesAt w v l:=by
 obtain⟨-,p,c,b,d,f,i⟩:=h;refine⟨p,c,b,d,f,λk=>?_⟩;obtain⟨g,o,e,-,m⟩:=i k;refine⟨g,o,e,λj a=>m j _ ?_⟩;rw[ob,j3 a];simp[v8,lo,a]
theorem sM{w x:ii}{C E:Nat}{n:Int}{tmps:Array jd}(a:jk w w x)(b:x.heap[C]?=T (ja ZC 37 (0,0)))(c:x.heap[E]?=T (ja #[I N n] 41 (0,0)))(d:n≠0)
 (e:tmps.getD 2 js=jj (T ⟨C,0,A⟩)) (f:tmps.getD 3 js=jj (T ⟨E,0,A⟩)) {ov:Option Cmt} (g:ov=A):Leaves jf Tryz.f14 tmps (Af w ov) [] .returning x:=by
 subst g;exact⟨_,Eg rfl _ _ C E 37 ZC _ (0,0) _ e f b (BO c) jV rfl mq,a,n,d,rfl⟩
theorem PI(l:LBy)(p:Option jQ)(n c:Nat)(w:ii)(hv:ap (·<w.heap.size) w (ic p n c) 1 l.length (l.map v8))(hl:l.length<=800000):
 jo jf 14 #[ic p n c] w (Af w (kG l)):=by
 have bl:∀(fn:Fn) (first bd:Array jd) (w:ii),(Instr.makeFunc fn first bd).run jf w=.ok (.func fn first bd) w:=λ_ _ _ _=>rfl
 have bs:=Bq;obtain⟨ov,a⟩:=J (kG l);rw[<-a];have a4:ih (dec l=A->ov=A):=O (λh=>by rw[a];unfold kG;rw[h];rfl);have VG:ih (∀v,dec l=T v->gC v=A->ov=A):=O (λv h C=>by rw[a];unfold kG;rw[h,jm,C];rfl);have K:ih (∀v c,dec l=T v->gC v=T c->fl c->enc (vL (aB c))=l->ov=T c):=O (λv c h C U b=>by rw[a];unfold kG;rw[h,jm,C,jm,if_pos ⟨U,b⟩]);have F:ih (∀v c,dec l=T v->gC v=T c->¬(fl c/\enc (vL (aB c))=l)->ov=A):=O (λv c h C U=>by rw[a];unfold kG;rw[h,jm,C,jm,if_neg U]);clear a;have d:=jq w (ja ZC 37);have m:=af w (ja ZC 37);have j:=jq (w.alloc (ja ZC 37)) (ja #[I N 0] 41);have o:=af (w.alloc (ja ZC 37)) (ja #[I N 0] 41);obtain⟨x1,k⟩:=J ((w.alloc (ja ZC 37)).alloc (ja #[I N 0] 41));obtain⟨a,q⟩:=J w.heap.size;replace d:=av d o;rw[jS]at j;have e:=m.trans (o.mono m.size);rw[<-k,<-q]at d j;rw[<-k]at e;have t:ap (·<x1.heap.size) x1 (ic p n c) 1 l.length (l.map v8):=(hv.keep λg b=>e.block g b).mono λg (b:g<w.heap.size)=>jO b e.size
 have x:=O d;have TM:=O j;have Qj:=O e;have y:=O k;have u:=O q;have HV:=O hv;have r:=O (ND l p n c x1 t Y);obtain⟨od,s⟩:=J (dec l);rw[<-s]at r a4 VG K F;have ad:=O s;clear d j m o e hv t k q s
 go_enter_defers func14,ntmps14
 go_upto_region 1 with fail
 refine BW (w':=x1) (y.trans rfl) ?_;rw[<-u];clear y
 go_wp2_with fail
 refine r.mono ?_;rintro e y ⟨d,hm⟩;have QE:=Z x d;have W:=Z TM d;have t:=ac Qj d;clear d r x
 rcases od with _|x
 ·obtain rfl:e=jl (jt #[je zeroV,I N 10]):=hm
  have z:=a4 rfl;have P:=O z;have j:=af y (ja zeroV 118);obtain⟨B,k⟩:=J (y.alloc (ja zeroV 118));rw[<-k]at j;have X:=av QE j;have aa:=av W j;obtain⟨⟨v0,o⟩,r,al,m⟩:=bH (i:=0) (I N 10) aa ar;have au:=(m.block a Y).trans X;have a1:=(t.trans (j.mono t.size)).trans (m.below (aw u));have D:=O au;have q:ih ((B.setCell ⟨a+1,0,A⟩ (I N 10)).heap[a+1]?=T (ja #[I N 10] 41 (0,0))):=O al;have H:=O a1;have E:=cell_of (i:=0) q rfl;have ZE:=O k;have s:y.alloc (ja #[I N 0,I N 0,jg ⟨#[]⟩,ic A 0 0] 118)=B:=k.symm;have HY:=O s;rw[ZE]at o r E;clear z j X aa al m au a1 k s a4 VG K F QE W t bl;rw[show(je zeroV:jd)=je #[I N 0,I N 0,jg ⟨#[]⟩,ic A 0 0]from rfl];have s:(y.alloc (ja #[I N 0,I N 0,jg ⟨#[]⟩,ic A 0 0] 118)).cell? ⟨a+1,0,A⟩=T v0:=o;have M:(y.alloc (ja #[I N 0,I N 0,jg ⟨#[]⟩,ic A 0 0] 118)).frozen? ⟨a+1,0,A⟩=false:=r;have Q:((y.alloc (ja #[I N 0,I N 0,jg ⟨#[]⟩,ic A 0 0] 118)).setCell ⟨a+1,0,A⟩ (I N 10)).cell? ⟨a+1,0,A⟩=T (I N 10):=E;clear o r E
  go_upto_region 3 with fail
  rw[HY];generalize B.setCell ⟨a+1,0,A⟩ (I N 10)=x4 at D q H⊢;clear HY ZE s M Q;obtain⟨V,s⟩:=J x4.drew;have M:ih (V.heap[a]?=T (ja ZC 37 (0,0))):=O (by rw[s];exact D);have a2:ih (V.heap[a+1]?=T (ja #[I N 10] 41 (0,0))):=O (by rw[s];exact q);have a5:ih (jk w w V):=O (by rw[s];exact H.trans ⟨rfl,rfl,rfl,jh _,λ_ _=>rfl⟩);refine j9 ?_;refine bi (λQ=>Q.heap[a]?=T (ja ZC 37 (0,0))/\Q.heap[a+1]?=T (ja #[I N 10] 41 (0,0))) (.take 0 (.take 1 (.one 2 (.one 3 .done)))) ae ae ae L (λ_ _ _ _ h=>h) (by rw[<-s];exact⟨M,a2⟩) ?_;rw[<-s];clear s D q H
  (refine az (v:=je ZC) rfl ag (λQ s=>aY jV rfl mq rfl rfl s.1) ?_;refine G ?_)
  (refine az (v:=?_) rfl ag (λQ s=>?_) ?_;rotate_left;(have Q:=cell_of (i:=0) s.2 rfl;clear s;go_simp;with_reducible rfl);refine G ?_)
  refine ai rfl (λK' s=>?_);rw[if_pos ag];refine jp 37 _ _ rfl a ZC rfl rfl 37 ZC M mq rfl rh ?_;rw[du M];refine s _ _ ⟨M,a2⟩ λ_=>?_
  clear s;refine G ?_;obtain⟨⟨v0,o⟩,r,ba,a3⟩:=bH (i:=0) (I N 10) a2 ar;have Q:=O ((a3.block a Y).trans M);have R:ih ((V.setCell ⟨a+1,0,A⟩ (I N 10)).heap[a+1]?=T (ja #[I N 10] 41 (0,0))):=O ba;have S:=O (a5.trans (a3.below (aw u)));clear ba a3;refine ai rfl (λK' s=>?_);go_simp;refine s _ _ ⟨Q,R⟩ λ_=>?_
  clear s;refine G ?_;generalize V.setCell ⟨a+1,0,A⟩ (I N 10)=z1 at Q R S⊢;clear o r M a2 a5;refine j1 ?_
  go_wp2_with fail
  exact sM S Q R L rfl rfl P
 obtain⟨bu,rfl,hu⟩:=hm;obtain⟨pu,cu,rfl⟩:=hu.form;have TA:ih (SmL x.l):=O (Jo hl ad.symm);have a2:=VG;have Yk:=ad;obtain⟨xk,Vi⟩:=J x.k;obtain⟨xn,U8⟩:=J x.n;obtain⟨xs,R9⟩:=J x.s;obtain⟨xl,ba⟩:=J x.l.length;rw[<-Vi,<-U8,<-R9,<-ba];rw[<-ba]at hu;have YZ:=O (And.intro Vi (And.intro U8 R9));have j:=af y (ja #[I N xk,I N xn,jg xs,ic pu xl cu] 118);have a3:=jq y (ja #[I N xk,I N xn,jg xs,ic pu xl cu] 118);obtain⟨V,a5⟩:=J y.heap.size;rw[<-a5]at a3;obtain⟨B,k⟩:=J (y.alloc (ja #[I N xk,I N xn,jg xs,ic pu xl cu] 118));rw[<-k]at j a3;have bb:V<B.heap.size:=(ji.1 a3).1;have bc:a+1<V:=by rw[a5];exact(ji.1 W).1
 have X:=av QE j;have aa:=av W j;obtain⟨⟨v0,o⟩,r,al,m⟩:=bH (i:=0) (I N 0) aa ar;have au:=(m.block a Y).trans X;have bf:=(m.block V Y).trans a3;have a1:=(t.trans (j.mono t.size)).trans (m.below (aw u));have bg:ao (λg=>a+1<g/\g<y.heap.size) (B.setCell ⟨a+1,0,A⟩ (I N 0)) x (ic pu xl cu):=ao.keep (λg b=>(m.block g Y).trans (j.block g b.2)) _ _ (ao.mono (λg b=>⟨by have:=(ji.1 TM).1;omega,b.2⟩) _ _ hu);have D:=O au;have M:=O bf;have q:ih ((B.setCell ⟨a+1,0,A⟩ (I N 0)).heap[a+1]?=T (ja #[I N 0] 41 (0,0))):=O al;have H:=O a1;have Ug:=O bg;have Sw:=O a5;have bh:=O bc;have bm:=O bb;have bk:(B.setCell ⟨a+1,0,A⟩ (I N 0)).heap.size=B.heap.size:=sd _ _ _;have Se:ih (V<(B.setCell ⟨a+1,0,A⟩ (I N 0)).heap.size):=O (by rw[bk];exact bb);have E:=cell_of (i:=0) q rfl;have ZE:=O k;have HY:=O k.symm;rw[ZE]at o r E;clear Vi U8 R9 ba j a3 a5 bb bc X aa al m au bf a1 bg k bk hu a4 VG QE W t
 go_upto_region 4 with fail
 rw[HY,<-Sw];generalize B.setCell ⟨a+1,0,A⟩ (I N 0)=x4 at D M q H Ug Se⊢;clear o r E HY ZE bm;have o:=cell_of (i:=0) M rfl;have W:=cell_of (i:=1) M rfl;have X:=cell_of (i:=2) M rfl;have c3:=cell_of (i:=3) M rfl;obtain⟨oc,j⟩:=J (gC x);have E:=O j;have k:jo jf 59 #[je #[I N xk,I N xn,jg xs,ic pu xl cu]] x4 (pB x4 oc):=by
  rw[j,YZ.1,YZ.2.1,YZ.2.2];exact M7 x (ic pu xl cu) x4 (ao.mono (λg b=>by have:=Sw.out;have:=Se.out;omega) _ _ Ug.out) TA
 have m:=O k;clear k j Ug TA YZ
 go_wp2_with fail
 refine m.mono ?_;rintro e t ⟨d,hm⟩;have Q:=Z D d;have a4:=Z M d;have R:=Z q d;have S:=ac H d;have Vo:ih (V<t.heap.size):=O (jO Se d.size);have aa:=O d.size;clear d D M q H m o W X c3
 rcases oc with _|m
 ·obtain rfl:e=.panicked bG:=hm
  have z:ov=A:=a2 x rfl E.symm;have P:=O z;clear z F K a2 E ad Yk;refine kn (f:=58) (args:=#[jj (T ⟨a,0,A⟩),jj (T ⟨a+1,0,A⟩)]) ar (by simp[go_sem]) ?_;refine(G6 a (a+1) Y ZC nP _ _ t Q R).mono ?_;rintro e u' U1 ⟨rfl,rfl,j,q,D,H,M,W,hk⟩;refine sM (ov:=ov) (S.trans ⟨D,H,M,W,λk X=>hk k (aU S.size) (aw u) (aw u)⟩) j q L rfl rfl P
 obtain⟨q,rfl,W⟩:=hm;have D:m.parent.length=32/\m.confirm.length=32/\dC (aB m):=by
  obtain⟨h1,C,U⟩:=NU hl Yk.symm E.symm;exact⟨C,U,h1⟩
 have bm:=O D;obtain⟨j,k⟩:=J ((ah m q).toArray);have C:j.size=73:=by rw[k];exact fZ m q D.1 D.2.1
 have H:j.all (·.oneCell')=true:=by
  rw[k];obtain⟨M,U,X,vw⟩:=q;obtain⟨⟨-,p1,n1,rfl,-⟩,⟨-,p2,n2,rfl,-⟩,⟨us,⟨-,p3,n3,rfl,-⟩,-⟩,⟨vs,⟨-,p4,n4,rfl,-⟩,-⟩,-⟩:=W;exact lA _ _ _ _ _ _ _ _ _ _ _ _ _
 have HA:=O k;have QH:=O C;have YJ:=O H;have M:(jf.info? 37).map (·.size)=T j.size:=by rw[C];exact fa
 have al:=O M;have U:=af t (ja ZC 37);have X:=jq t (ja ZC 37);have Ve:=O X;rw[<-k];clear D k C H M X
 go_upto_region 6 with(refine jn rfl λ_ s=>?_;refine jp 37 _ _ rfl t.heap.size j rfl rfl 37 ZC Ve al (nP.trans QH.symm) YJ (s _ _ ?_))
 obtain⟨C,k⟩:=J ((t.alloc (ja ZC 37)).setRow t.heap.size j);obtain⟨X,H⟩:=J t.heap.size;have au:C.heap[X]?=T (ja j 37 (0,0)):=by rw[k,H];exact jv _ _ _ _ _ _ Ve.out
 have a1:∀g,g<t.heap.size->C.heap[g]?=t.heap[g]?:=λg b=>by rw[k];exact(jy _ _ _ _ Y).trans (U.block g b)
 have a5:C.heap.size=t.heap.size+1:=by rw[k];simp[lm,jS]
 have M:jk t t C:=by rw[k];exact jD U (jh _) j
 have VQ:=Z Q M;have ba:=Z R M;have VR:=O au;have SU:=ac S M;have Y6:ih (ay (λg=>a+1<g/\g<X) C m q):=O ((W.keep λg b=>a1 g b.2).mono λg b=>⟨by have:=b.1;have:=Se.out;have:=bh.out;have:=aa.out;omega,by rw[H];exact b.2⟩);have D:ih (a+1<X/\X<C.heap.size):=O ⟨by have:=bh.out;have:=Vo.out;omega,by omega⟩;have a3:=O k;refine BW (w':=C) (a3.trans rfl) ?_;rw[<-H];clear k H au a1 a5 M U W a3 Ve Q a4 R S Vo aa Se;have k:jo jf 13 #[je j] C (AR m C):=by
  rw[HA];exact Fx m q C (Y6.mono λg b=>Nat.lt_trans b.2 D.2) bm.2.2
 have M:=O k;clear k
 go_wp2_with (refine jK rfl 37 _ rfl X rfl 37 j (0,0) _ VR.out jV rfl al ?_)
 refine M.mono ?_;rintro e k ⟨a1,a3,d⟩;have H:=Z VQ d;have a4:=Z ba d;have Vf:=Z VR d;have Rn:=ac SU d;have Wo:ih (ay (λg=>a+1<g/\g<X) k m q):=O (Y6.keep λg b=>d.block g (Nat.lt_trans b.2 D.2));have bn:ih (a+1<X/\X<k.heap.size):=O ⟨D.1,jO D.2 d.size⟩;have a5:ih (BytesAt k (ic p n c) l):=O ((HV.keep λg b=>Rn.block g b).bytesL);clear d VQ ba VR SU Y6 D M
 by_cases U:fl m
 ·obtain⟨v,rfl,hv⟩:=a1 U
  have d:=O (BytesAt.of_own hv);obtain⟨pe,ce,bo⟩:∃(pe:Option jQ) (ce:Nat),v=ic pe (enc (vL (aB m))).length ce:=by
   obtain⟨pe,ce,h1,-⟩:=d.out;exact⟨pe,ce,h1⟩
  subst bo;obtain⟨D,W⟩:=J (decide (enc (vL (aB m))=l));have ba:ih (jo jf 60 #[ic pe (enc (vL (aB m))).length ce,ic p n c] k λe w'=>e=jl (.bool D)/\k=w'):=O (by rw[W];exact Nm _ _ _ _ k d a5);obtain⟨M,hM⟩:=J ((enc (vL (aB m))).length);rw[<-hM]at ba⊢;have Zg:=O W;clear hv W a1 a3 d a5 hM
  rcases D with _|_
  ·have z:ov=A:=F x m rfl E.symm (λh=>by have:=Zg.out;rw[eq_comm,decide_eq_false_iff_not]at this;exact this h.2)
   have P:=O z;clear z F K a2 E ad Yk Zg U
   go_upto_region 8 with(refine ba.mono ?_;rintro e x9 ⟨rfl,rfl⟩)
   have W:k.setRow a ZC=k:=du H;obtain⟨⟨v0,o⟩,r,d,aa⟩:=bH (i:=0) (I N 220) a4 ar;have RX:=O ((aa.block a Y).trans H);have bb:ih ((k.setCell ⟨a+1,0,A⟩ (I N 220)).heap[a+1]?=T (ja #[I N 220] 41 (0,0))):=O d;have Rt:=O (Rn.trans (aa.below (aw u)));rw[<-W]at o r;have bc:=O W;clear d aa W
   go_wp2_with (refine jn rfl λ_ s=>jp 37 _ _ rfl a ZC rfl rfl 37 ZC H mq rfl rh (s _ _ ?_))
   rw[bc];refine kn (f:=58) (args:=#[jj (T ⟨a,0,A⟩),jj (T ⟨a+1,0,A⟩)]) ar (by simp[go_sem]) ?_;refine(yW a (a+1) _).mono ?_;rintro e u' U1 ⟨rfl,rfl,rfl⟩;refine sM (ov:=ov) Rt RX bb L rfl rfl P
  have au:ov=T m:=K x m rfl E.symm U (of_decide_eq_true Zg.symm);have Qv:=O au;clear au F K a2 E ad Yk Zg U
  go_upto_region 9 with(refine ba.mono ?_;rintro e x9 ⟨rfl,rfl⟩)
  have bf:(k.setRow a j).heap[a]?=T (ja j 37 (0,0)):=jv _ _ _ _ _ _ H.out;have d:=(jy k a (a+1) j Y).trans a4;obtain⟨⟨v0,o⟩,r,bg,au⟩:=bH (i:=0) (I N 0) d ar;have Z9:=O ((au.block a Y).trans bf);have bq:ih (((k.setRow a j).setCell ⟨a+1,0,A⟩ (I N 0)).heap[a+1]?=T (ja #[I N 0] 41 (0,0))):=O bg;have YL:=O ((jD Rn (jH u.symm) j).trans (au.below (aw u)));have bk:((k.setRow a j).setCell ⟨a+1,0,A⟩ (I N 0)).heap.size=k.heap.size:=by rw[sd];simp[lm]
  have br:ih (ay (λg=>w.heap.size<=g/\g<((k.setRow a j).setCell ⟨a+1,0,A⟩ (I N 0)).heap.size) ((k.setRow a j).setCell ⟨a+1,0,A⟩ (I N 0)) m q):=O ((Wo.keep λg b=>(au.block g Y).trans (jy _ _ _ _ Y)).mono λg b=>⟨by have:=u.out;omega,by rw[bk];have:=bn.out;omega⟩);clear bf d bg au bk
  go_wp2_with (first|(refine jK rfl 37 _ rfl X rfl 37 j (0,0) _ Vf.out jV rfl al ?_)|(refine jn rfl λ_ s=>jp 37 _ _ rfl a j rfl rfl 37 ZC H al (nP.trans QH.symm) YJ (s _ _ ?_)))
  refine kn (f:=58) (args:=#[jj (T ⟨a,0,A⟩),jj (T ⟨a+1,0,A⟩)]) ar (by simp[go_sem]) ?_;refine(yW a (a+1) _).mono ?_;rintro e u' U1 ⟨rfl,rfl,rfl⟩;rw[Qv];exact⟨_,Eg rfl _ _ a (a+1) 37 j _ (0,0) _ rfl rfl Z9 (BO bq) jV rfl al,YL,q,by rw[HA],br⟩
 obtain rfl:=a3 U;have z:ov=A:=F x m rfl E.symm (λh=>U h.1);have P:=O z;clear z F K a2 E ad Yk U a1 a3 a5
 go_upto_region 8 with fail
 have W:k.setRow a ZC=k:=du H;obtain⟨⟨v0,o⟩,r,d,aa⟩:=bH (i:=0) (I N 220) a4 ar;have RX:=O ((aa.block a Y).trans H);have bb:ih ((k.setCell ⟨a+1,0,A⟩ (I N 220)).heap[a+1]?=T (ja #[I N 220] 41 (0,0))):=O d;have Rt:=O (Rn.trans (aa.below (aw u)));rw[<-W]at o r;have bc:=O W;clear d aa W
 go_wp2_with (refine jn rfl λ_ s=>jp 37 _ _ rfl a ZC rfl rfl 37 ZC H mq rfl rh (s _ _ ?_))
 rw[bc];refine kn (f:=58) (args:=#[jj (T ⟨a,0,A⟩),jj (T ⟨a+1,0,A⟩)]) ar (by simp[go_sem]) ?_;refine(yW a (a+1) _).mono ?_;rintro e u' U1 ⟨rfl,rfl,rfl⟩;refine sM (ov:=ov) Rt RX bb L rfl rfl P
theorem KT:aM 4:=by
 refine⟨by decide,by decide,?_⟩;rw[<-tA _ QN 62 L]
 decide+kernel
theorem OX:aM 16:=by
 refine⟨by decide,by decide,?_⟩;rw[<-tA _ QN 62 L]
 decide+kernel
theorem J0{d:Int}(a:0<=d)(b:d<512)(x:Int):gZ (512+d) x=decide (x∈(512+d)::aQ d):=by
 by_cases h:x∈(512+d)::aQ d
 ·rw[decide_eq_true h,rG ((mU d a b x).1 h)]
 rw[decide_eq_false h,Bw (λc=>h ((mU d a b x).2 c))]
def nD:List (Int×Int)->Bool
 |[]=>true
 |[_]=>true
 |x::y::r=>decide (x.1<y.1)&&nD (y::r)
theorem Ev:∀{t:List (Int×Int)} {x:Int×Int},nD (x::t)=true->∀e∈t,x.1<e.1
 |[],x,_,e,he=>by cases he
 |y::r,x,h,e,he=>by
  simp only[nD,j6,decide_eq_true_eq]at h
  rcases jC.1 he with rfl|he
  ·exact h.1
  have:=Ev h.2 e he;omega
theorem DU:∀{t:List (Int×Int)},nD t=true->Str t
 |[],_=>List.Pairwise.nil
 |[x],_=>List.pairwise_singleton _ _
 |x::y::r,h=>by
  refine List.pairwise_cons.2 ⟨Ev h,DU ?_⟩;simp only[nD,j6]at h;exact h.2
def BB(t:List (Int×Int)):Bool:=
 nD t&&t.all λe=>decide (1<=e.1)&&decide (e.1<=1023)&&(decide (e.2=4)||decide (e.2=16))&&t.any λf=>decide (512<=f.1)&&decide (f.1<=1023)&&decide (e.1∈f.1::aQ (f.1-512))
theorem MJ{t:List (Int×Int)}(h:BB t=true):Good t:=by
 unfold BB at h;simp only[j6,qG,List.any_eq_true,decide_eq_true_eq,qH]at h;refine⟨DU h.1,λe he=>?_⟩;obtain⟨⟨⟨b,c⟩,a⟩,f,d,⟨g,j⟩,i⟩:=h.2 e he;refine⟨b,c,?_,f,d,g,?_⟩
 ·rcases a with a|a
  ·rw[a];exact KT
  rw[a];exact OX
 have:=(mU (f.1-512) Y Y e.1).1;rw[show 512+(f.1-512)=f.1 by omega]at this;exact this i
theorem s8:cN []=0:=nR (MJ (by decide+kernel))
theorem sw(n:Nat):aM ((aG 4 n:Nat):Int):=mT (a:=4) kY n
def cZ(d:Nat):Chg:=⟨1,(d:Int),((aG 4 (1000+d):Nat):Int),((aG 4 (100+d):Nat):Int),0⟩
theorem yG{d:Nat}(h:d<512):pT (cZ d):=⟨⟨by show(0:Int)<=(d:Int);omega,by show(d:Int)<512;omega⟩,.inl ⟨rfl,sw _,sw _,rfl⟩⟩
def cB:Grp:=⟨3,0,dj,[],[]⟩
def di:List Chg:=[cZ 4,cZ 7]
theorem sL:aV []=[]:=by decide+kernel
theorem OL{t:List (Int×Int)}{d:Int}(a:cN t=0)(b:0<=d)(c:d<512):cS t d false=0:=by
 unfold cS;rw[if_pos a,if_neg];rintro(h|h|⟨h,-⟩)
 ·omega
 ·omega
 cases h
theorem Ce{t:List (Int×Int)}{d x:Int}(a:cN t=0)(b:0<=d)(c:d<512)(e:aM x):eT t d x=0:=by
 unfold eT;rw[if_pos (OL a b c),if_pos (fw e)]
theorem Fq{f:Int}(a:gD f):co ⟨f,0,dj,[],[]⟩ where
 fol:=a
 ep:=⟨Int.le_refl _,by show(0:Int)<=1099511627776;omega⟩
 tree:=s8
 zero:=λ_=>⟨rfl,rfl⟩
 dev:=sL.symm
 ok:=λm b=>by cases b
theorem C0:co cB:=Fq L
theorem Dc:co eD:=Fq (f:=0) L
theorem wV:dG di:=⟨λx a=>by
 simp only[di,jC,lv,or_false]at a
 rcases a with rfl|rfl
 ·exact yG L
 exact yG L,by simp[di,cZ],by simp[di]⟩
theorem uz:dG [cZ 4]:=⟨λx a=>by
 simp only[jC,lv,or_false]at a;subst a;exact yG L,by simp,by simp⟩
theorem OW:eV cB 4 di:=⟨rfl,λ_=>⟨_,_,rfl,rfl⟩,λx a=>by
 simp only[di,jC,lv,or_false]at a
 rcases a with rfl|rfl
 ·exact⟨rfl,(λh=>by cases h)⟩
 exact⟨rfl,(λh=>by cases h)⟩⟩
theorem Hg:eV cB 4 [cZ 4]:=⟨rfl,λ_=>⟨_,_,rfl,rfl⟩,λx a=>by
 simp only[jC,lv,or_false]at a;subst a;exact⟨rfl,λh=>by cases h⟩⟩
theorem uR:cD cB 4 di=0:=mf.2 ⟨C0,wV,OW⟩
theorem BP:cD cB 4 [cZ 4]=0:=mf.2 ⟨C0,uz,Hg⟩
theorem C6{a:Int}{l:List Chg}(h:¬eV eD a l):cD eD a l=221:=by
 unfold cD;rw[if_pos Dc,if_neg (λb=>h b.2)]
theorem Jt:cD eD 3 [cZ 4]=221:=C6 λh=>by
 obtain⟨x,r,e,a⟩:=h.first rfl;injection e with b c
 rw[<-b]at a;exact absurd a L
theorem IW(a:Int):cD eD a []=221:=C6 λh=>by
 obtain⟨x,r,e,b⟩:=h.first rfl
 cases e
theorem Ku:lz cB 4 104 di=0:=by
 unfold lz;rw[if_neg (by show ¬(1099511627776:Int)<=0;omega),if_neg (λh=>h uR),if_neg Y,if_neg (λh=>h rfl)]
theorem DR:lz eD 3 103 [cZ 4]=221:=by
 unfold lz;rw[if_neg (by show ¬(1099511627776:Int)<=0;omega),Jt,if_pos L]
theorem Fu:ff dP=220:=by
 rcases tP dP with⟨h,-⟩|⟨-,h⟩
 ·exact absurd h.ep.1 L
 exact h
theorem Du:dc eD dP=220:=by
 unfold dc;rw[sG.2 Dc,if_neg L,Fu,if_pos L]
theorem wT:aJ [] [cZ 4]=[(516,((aG 4 1004:Nat):Int))]:=by
 have a:eT [] 4 ((aG 4 1004:Nat):Int)=0:=Ce s8 L L (sw _);show eH [] (cZ 4)=_;unfold eH;rw[if_neg L];show ig [] 4 ((aG 4 1004:Nat):Int)=_;unfold ig;rw[if_pos a]
 rfl
theorem Ai:Good (aJ [] [cZ 4]):=by
 have h:=(lO [cZ 4] [] (iP s8) ⟨λx a=>uz.each x a,uz.once,λx a=>by
  simp only[jC,lv,or_false]at a;subst a;exact⟨(λh=>by rw[sL]at h;cases h),(λh=>absurd rfl h)⟩⟩).1
 exact h
theorem I6:Good (aJ [] di):=by
 have h:=(lO di [] (iP s8) ⟨λx a=>wV.each x a,wV.once,λx a=>by
  simp only[di,jC,lv,or_false]at a
  rcases a with rfl|rfl
  ·exact⟨(λh=>by rw[sL]at h;cases h),(λh=>absurd rfl h)⟩
  exact⟨(λh=>by rw[sL]at h;cases h),(λh=>absurd rfl h)⟩⟩).1
 exact h
theorem OM:aJ [] di=[(516,((aG 4 1004:Nat):Int)),(519,((aG 4 1007:Nat):Int))]:=by
 have a:=nR Ai;rw[wT]at a;have b:eT [(516,((aG 4 1004:Nat):Int))] 7 ((aG 4 1007:Nat):Int)=0:=Ce a L L (sw _);have e:aJ [] di=eH (aJ [] [cZ 4]) (cZ 7):=rfl;rw[e,wT];unfold eH;rw[if_neg L];show ig [(516,((aG 4 1004:Nat):Int))] 7 ((aG 4 1007:Nat):Int)=_;unfold ig;rw[if_pos b];have c:gZ (512+7) 516=false:=by rw[J0 L L];decide+kernel
 have d:cU [(516,((aG 4 1004:Nat):Int))] 7=[(516,((aG 4 1004:Nat):Int))]:=by
  unfold cU;rw[qI (by rw[c];rfl)]
  rfl
 rw[d];generalize((aG 4 1004:Nat):Int)=p;generalize((aG 4 1007:Nat):Int)=q;show(if(519:Int)<516 then _ else _)=_;rw[if_neg L]
 rfl
theorem kh{t:List (Int×Int)}(h:Good t){x:Int}(a:1<=x)(b:x<=1023):dU t x=cJ (ofF t) (hgt x.toNat) x.toNat:=by
 have e:iR t x=0:=by unfold iR;rw[if_pos (nR h),if_neg Y]
 unfold dU;rw[if_pos e]
theorem Ni:gA 4=[517,259,128,65,33,17,9,5,3]:=by decide+kernel
theorem PP:∀p:Int,(([517,259,128,65,33,17,9,5,3]:List Int).map λx=>cJ (ofF [(516,p)]) (hgt x.toNat) x.toNat)=[[],[],[],[],[],[],[],[],[]]:=by
 intro p;kernel_rfl
theorem Kf:∀p q:Int,(([517,259,128,65,33,17,9,5,3]:List Int).map λx=>cJ (ofF [(516,p),(519,q)]) (hgt x.toNat) x.toNat)=[[],[519],[],[],[],[],[],[],[]]:=by
 intro p q;kernel_rfl
theorem DD{t:List (Int×Int)}(h:Good t){r:List (List Int)}(a:(([517,259,128,65,33,17,9,5,3]:List Int).map λx=>cJ (ofF t) (hgt x.toNat) x.toNat)=r):
 dI t 4=(r.zipIdx 1).flatMap λx=>x.1.map λn=>((x.2:Int),n):=by
 unfold dI eB;rw[Ni,<-a];simp only[p6,kw,List.zipIdx_cons,List.zipIdx_nil,List.flatMap_cons,List.flatMap_nil];rw[kh h (x:=517) L L,kh h (x:=259) L L,kh h (x:=128) L L,kh h (x:=65) L L,kh h (x:=33) L L,
  kh h (x:=17) L L,kh h (x:=9) L L,kh h (x:=5) L L,kh h (x:=3) L L]
theorem N2:dI (aJ cB.tree di) 4=[(2,519)]:=by
 show dI (aJ [] di) 4=_;have a:(([517,259,128,65,33,17,9,5,3]:List Int).map λx=>cJ (ofF (aJ [] di)) (hgt x.toNat) x.toNat)=[[],[519],[],[],[],[],[],[],[]]:=by rw[OM];exact Kf _ _
 rw[DD I6 a]
 rfl
theorem Gb:dh cB 4 [cZ 4]=[]:=by
 rw[rH BP];show dI (aJ [] [cZ 4]) 4=_;have a:(([517,259,128,65,33,17,9,5,3]:List Int).map λx=>cJ (ofF (aJ [] [cZ 4])) (hgt x.toNat) x.toNat)=[[],[],[],[],[],[],[],[],[]]:=by rw[wT];exact PP _
 rw[DD Ai a]
 rfl
theorem FU:dk 4 di=[cZ 7]:=by
 unfold dk;have e:(di.filter λx=> !kL 4 x)=[cZ 7]:=by
  unfold di kL;rw[List.filter_cons_of_neg L,qI L,List.filter_nil]
 rw[e];simp[eX]
noncomputable def c47:Cmt:=mkC cB 4 104 di (1#8::mz 31 0#8) (2#8::mz 31 0#8) (3#8::mz 31 0#8)
theorem na:fS cB c47:=zn uR (by show(0:Int)<1099511627776;omega) rfl rfl
theorem lP:dx c47:=D4 uR (by show(0:Int)<1099511627776;omega) rfl rfl rfl
theorem K8:dc cB c47=0:=zy.2 na
theorem JR:c47.box.length=1:=by
 have h:=congrArg kl na.box;rw[jw]at h;rw[h];have e:c47.chg=di/\c47.author=4:=⟨rfl,rfl⟩;rw[e.1,e.2,N2]
 rfl
theorem IM:c47.wel.length=1:=by
 have h:=congrArg kl na.wel;rw[jw,jw]at h;have e:c47.chg=di/\c47.author=4:=⟨rfl,rfl⟩;rw[h,e.1,e.2,FU]
 rfl
theorem Ke:(bX cB c47).mem=[⟨4,1,((aG 4 104:Nat):Int)⟩,⟨7,1,((aG 4 107:Nat):Int)⟩]:=by
 show ee (eF [] di (0+1))=_;have e:eF [] di (0+1)=[⟨4,1,((aG 4 104:Nat):Int)⟩,⟨7,1,((aG 4 107:Nat):Int)⟩]:=rfl;rw[e];unfold ee;refine List.mergeSort_of_pairwise ?_;simp
theorem NR:kG (enc (vL (aB c47)))=T c47:=Jj c47 lP.plen lP.clen lP.encOk na.chk
theorem Es:(jf.info? 49).map (·.size)=T 5:=by kernel_rfl
theorem zg(d:Nat)(o:d<512)(w:ii):jo jf 11 #[I N d] w λe w'=>e=jl (je (cZ d).cells.toArray)/\jk w w w':=by
 have j:=af w (ja #[I N 0,I N 0,I N 0,I N 0,I N 0] 49);have a:=jq w (ja #[I N 0,I N 0,I N 0,I N 0,I N 0] 49);obtain⟨b,c⟩:=J w.heap.size;rw[<-c]at a;have h:(1000+(d:Int))=((1000+d:Nat):Int):=Y;have i:(100+(d:Int))=((100+d:Nat):Int):=Y;have f:ih (∀W,jo jf 41 #[I N (1000+(d:Int))] W λe w'=>e=jl (jt #[I N (aG 4 (1000+d):Nat),I N 0])/\jk W W w'):=O (λW=>by rw[h];exact sP (1000+d) Y Y W);have g:ih (∀W,jo jf 41 #[I N (100+(d:Int))] W λe w'=>e=jl (jt #[I N (aG 4 (100+d):Nat),I N 0])/\jk W W w'):=O (λW=>by rw[i];exact sP (100+d) Y Y W);clear h i;have k:=O a;have l:=O j;have m:=O c;obtain⟨p,h⟩:∃y:Int,y=((aG 4 (1000+d):Nat):Int):=⟨_,rfl⟩;obtain⟨q,i⟩:∃y:Int,y=((aG 4 (100+d):Nat):Int):=⟨_,rfl⟩;have n:(cZ d).cells=[I N 1,I N d,I N p,I N q,I N 0]:=by rw[h,i];rfl
 rw[<-h]at f;rw[<-i]at g;rw[n];clear a j c h i n
 go_enter func11,ntmps11
 go_wp2_with fail
 refine(f _).mono ?_;rintro e n ⟨rfl,a⟩;have c:=Z k a;have h:=ac l a;clear a k l f
 go_wp2_with fail
 refine(g _).mono ?_;rintro e f ⟨rfl,a⟩;have i:=Z c a;have j:=ac h a;clear a c h g;rw[<-m];have a:=O (jv f b _ #[I N 1,I N d,I N p,I N q,I N 0] _ _ i.out);have c:=O (jD j (jH m.symm) #[I N 1,I N d,I N p,I N q,I N 0])
 go_wp2_with (refine jn rfl λ_ g=>jp 49 _ _ rfl b #[I N 1,I N d,I N p,I N q,I N 0] rfl rfl 49 _ i.out Es rfl (by simp[jz]) (g _ _ ?_))
 generalize f.setRow b #[I N 1,I N d,I N p,I N q,I N 0]=g at a c⊢;exact bodyPost_ret (v:=je #[I N 1,I N d,I N p,I N q,I N 0]) (j7 rfl _ _ b 49 _ (0,0) _ rfl a underlying49 rfl Es) rfl ⟨rfl,c⟩
theorem KM{W:ii}{g:Grp}{v:jd}{f c:Mem}(i:g.mem=[f,c])(h:EM.At W v g.mem):
 ∃a b d,v=ic (T ⟨a,b,A⟩) 2 d/\W.cell? ⟨a,b+3,A⟩=T (I N c.dev):=by
 rw[i]at h;obtain⟨-,p,d,e,-,-,j⟩:=h;obtain⟨a,b,rfl,k⟩:=j (by show 0<2;omega);exact⟨a,b,d,e,k 3 (I N c.dev) rfl⟩
theorem Jv{W:ii}{c:Cmt}(g:c=c47){vm vt:jd}(h:bQ W (bX cB c) vm vt):
 ∃e f i,vm=ic (T ⟨e,f,A⟩) 2 i/\W.cell? ⟨e,f+3,A⟩=T (I N 7):=by
 have d:(bX cB c).mem=[⟨4,1,((aG 4 104:Nat):Int)⟩,⟨7,1,((aG 4 107:Nat):Int)⟩]:=by rw[g];exact Ke
 generalize((aG 4 104:Nat):Int)=a at d;generalize((aG 4 107:Nat):Int)=b at d;exact KM d h.mem
theorem pi{l:List jd}{i:Nat}{v:jd}(h:l[i]?=T v):l.toArray[i]?=T v:=by rw[List.getElem?_toArray];exact h
theorem Ii{D:Nat->Prop}{W:ii}{c:Cmt}{q:CQ}{n:Nat}(b:c.box.length=n)(h:ay D W c q):∃p k,(ah c q).toArray[37]?=T (ic p n k):=by
 obtain⟨-,-,-,-,-,a,-,-,-⟩:=eE c q h.plen h.clen;obtain⟨d,⟨-,p,k,e,-⟩,-⟩:=h.box;rw[e,b]at a;exact⟨p,k,pi a⟩
theorem PC{D:Nat->Prop}{W:ii}{c:Cmt}{q:CQ}{n:Nat}(b:c.wel.length=n)(h:ay D W c q):∃p k,(ah c q).toArray[38]?=T (ic p n k):=by
 obtain⟨-,-,-,-,-,-,a,-,-⟩:=eE c q h.plen h.clen;obtain⟨d,⟨-,p,k,e,-⟩,-⟩:=h.wel;rw[e,b]at a;exact⟨p,k,pi a⟩
theorem NK{g:Grp}{vm vt:jd}{f e:Int}(a:g.last.length=32)(b:g.folder=f)(he:g.epoch=e):
 (aA g vm vt).toArray[0]?=T (I N f)/\(aA g vm vt).toArray[1]?=T (I N e)/\(aA g vm vt).toArray[34]?=T vm:=by
 have h:=kF (g:=g) (vm:=vm) (vt:=vt) a;rw[b,he]at h;exact⟨pi h.1,pi h.2.1,pi h.2.2.1⟩
theorem vG(g:Grp)(c:Cmt):(bX g c).folder=g.folder/\(bX g c).epoch=c.epoch/\(bX g c).last=idC c:=by
 unfold bX;exact⟨by dsimp only,by dsimp only,by dsimp only⟩
theorem MY{c:Cmt}:(bX cB c).folder=3:=(vG cB c).1
theorem My:c47.epoch=1:=na.ep.trans (show cB.epoch+1=1 from rfl)
theorem Ln{c:Cmt}(a:c=c47):(bX cB c).epoch=1:=(vG cB c).2.1.trans (by rw[a];exact My)
theorem OF{W:ii}{g:Grp}{X:Nat}{a:Array jd}{vm vt:jd}{l:LBy}(b:g.last.length=32)(e:g.last=l)(c:a=(aA g vm vt).toArray)(h:W.heap[X]?=T (ja a 29 (0,0))):W.rangeAt X 2 (l.map v8):=by
 rw[<-e];rw[c]at h;exact cV.last (g:=g) (vm:=vm) (vt:=vt) ⟨h,b⟩
theorem Hj{c:Cmt}:(bX cB c).last=idC c:=(vG cB c).2.2
theorem LN(c:Cmt):(jf.info? 23).map (·.size)=T ((idC c).map v8).length:=by rw[jw,sQ];kernel_rfl
theorem JC(l:LBy)(a:l.length=32)(z:ii):(Op.equalIn 10000 23 (je (l.map v8).toArray) (je (l.map v8).toArray)).run jf z=.ok true z:=by
 have h:=uc l l a a z;rw[show decide (l=l)=true from decide_eq_true rfl]at h;exact h
theorem LY(a b:LBy)(f:a.length=32)(g:b.length=32)(z:ii):
 (Op.equalIn 10000 53 (je (a.map v8).toArray) (je (b.map v8).toArray)).run jf z=.ok (decide (a=b)) z:=by
 have h:=yF (P:=jf) (t:=53) (e:=5) (n:=32) (k:=.u8) underlying53 underlying5 ae ae ae (a.map λb=>(b.toNat:Int)) (b.map λb=>(b.toNat:Int)) (by rw[jw];exact f) (by rw[jw];exact g)
  (by
   intro c d;obtain⟨y,-,rfl⟩:=List.mem_map.1 d;have:=y.isLt;exact WalkArith.wf_u8 Y) (by
    intro c d;obtain⟨y,-,rfl⟩:=List.mem_map.1 d;have:=y.isLt;exact WalkArith.wf_u8 Y) z
 have e:∀l:LBy,(l.map λb=>(b.toNat:Int)).map (jb .u8)=l.map v8:=λl=>by rw[List.map_map];rfl
 rw[e,e]at h;rw[h]
 congr 1
 have c:(a.map λb=>(b.toNat:Int))=(b.map λb=>(b.toNat:Int))↔a=b:=by
  refine List.map_inj_right λx y d=>?_
  have:x.toNat=y.toNat:=Int.ofNat.inj d;exact qs this
 simp only[c]
theorem IU(l:LBy)(a:l.length=32)(z:ii):(Op.equalIn 10000 53 (je (l.map v8).toArray) (je (l.map v8).toArray)).run jf z=.ok true z:=by
 have h:=LY l l a a z;rw[show decide (l=l)=true from decide_eq_true rfl]at h;exact h
theorem Hs(k:LBy)(i:LBy):fF cB k i=rE dj (bU k 9):=rfl
section
section
variable {P:jM} {ops:Array jL} {Q:jE->Act->ii->Prop} {md:Region.Mode} {S:ii->Prop}
def pk(P:jM)(ops:Array jL)(S:ii->Prop):List Nat->(Act->ii->Prop)->Act->ii->Prop
 |[],K,a,w=>K a w
 |i::r,K,a,w=>∃o v,ops[i]?=T o/\eS P ops S o v a/\pk P ops S r K (a.put o.dst v) w
def sU(md:Region.Mode)(ops:Array jL):List Nat->Array Bool->Bool
 |[],_=>true
 |i::r,a=>Region.free md ops a i&&(Region.ready md ops a).contains i&&sU md ops r (a.setIfInBounds i true)
def mh:List Nat->Array Bool->Array Bool
 |[],a=>a
 |i::r,a=>mh r (a.setIfInBounds i true)
theorem ED(g:Region.noSelect ops=true)(k:∀c a b w,Q (.panic c) a w->Q (.panic c) b w){K:Act->ii->Prop}{n:Nat}{f:Array Bool}(m:∀a w,K a w->fQ P md ops Q S ops.size n f a w):
 ∀(l:List Nat) (b:Array Bool) (a:Act) (w:ii),sU md ops l b=true->mh l b=f->S w->pk P ops S l K a w->fQ P md ops Q S ops.size (n+l.length) b a w
 |[],b,a,w,_,e,_,h=>by
  have d:b=f:=e;rw[d];exact m a w h
 |i::r,b,a,w,hk,e,p,⟨o,v,q,s,h⟩=>by
  simp only[sU,j6]at hk;refine tq q (Region.noSelect_spec g) (λc a d v w=>k c _ a w) (n+r.length) b a w (Region.free_spec q hk.1.1) (λj c d t _=>(Bg j c d t).elim) (by simpa using hk.1.2) s p (ED g k m r _ _ _ hk.2 e p h)
def io(md:Region.Mode)(ops:Array jL)(e f:Nat)(g:Array Bool):Nat->List (Nat×Bool)->Bool->Bool->Array Bool->Bool
 |0,b,c,d,a=>b.isEmpty&&c&&d&&(a==g)
 |n+1,b,c,d,a=>match b.head? with
  |some (k,true)=>Region.free md ops a k&&(Region.ready md ops a).contains k&&io md ops e f g n b.tail c d (a.setIfInBounds k true)
  |_=> !(Region.ready md ops a).isEmpty&&(Region.ready md ops a).all λi=>
   (b.head?==T (i,false)&&io md ops e f g n b.tail c d (a.setIfInBounds i true))||(i==e&& !c&&io md ops e f g n b true d (a.setIfInBounds i true))||(i==f&& !d&&io md ops e f g n b c true (a.setIfInBounds i true))
theorem rk{r s:Nat}{t:Array Bool}{l:List (Nat×Bool)}{fe:Nat}(u:Region.noSelect ops=true)(x:∀c a q w,Q (.panic c) a w->Q (.panic c) q w)(g:Nat->Bool->Bool->Act->ii->Prop)(p:∀j b f a w,g j b f a w->S w)
 (y:∀j i,l[j]?=T (i,true)->∀b f a w,g j b f a w->∃o v,ops[i]?=T o/\eS P ops S o v a/\g (j+1) b f (a.put o.dst v) w) (z:∀j i,l[j]?=T (i,false)->∀b f a w,g j b f a w->wpOp P ops Q i (g (j+1) b f) a w) (B:∀j f a w,g j false f a w->wpOp P ops Q r (g j true f) a w) (C:∀j b a w,g j b false a w->wpOp P ops Q s (g j b true) a w)
 (D:∀a w,g l.length true true a w->fQ P md ops Q S ops.size fe t a w):
 ∀(n j:Nat) (b f:Bool) (m:Array Bool) (a:Act) (w:ii),j<=l.length->io md ops r s t n (l.drop j) b f m=true->g j b f a w->fQ P md ops Q S ops.size (fe+n) m a w
 |0,j,b,f,m,a,w,E,hk,h=>by
  simp only[io,j6,beq_iff_eq,List.isEmpty_iff,List.drop_eq_nil_iff]at hk;obtain⟨⟨⟨d,rfl⟩,rfl⟩,rfl⟩:=hk;obtain rfl:j=l.length:=Y;exact D a w h
 |n+1,j,b,f,m,a,w,E,hk,h=>by
  rw[io,List.head?_drop]at hk
  by_cases H:∃k,l[j]?=T (k,true)
  ·obtain⟨k,e⟩:=H
   rw[e]at hk;simp only[j6]at hk;have F:j<l.length:=(nn.1 e).1;obtain⟨o,v,K,M,R⟩:=y j k e b f a w h;rw[qJ]at hk;refine tq K (Region.noSelect_spec u) (λc a d v w=>x c _ a w) (fe+n) m a w (Region.free_spec K hk.1.1) (λj c E d _=>(Bg j c E d).elim) (by simpa using hk.1.2) M (p _ _ _ _ _ h) (rk u x g p y z B C D n (j+1) b f _ _ w F hk.2 R)
  have d:(!(Region.ready md ops m).isEmpty&&(Region.ready md ops m).all λi=>
   (l[j]?==T (i,false)&&io md ops r s t n (l.drop j).tail b f (m.setIfInBounds i true))||(i==r&& !b&&io md ops r s t n (l.drop j) true f (m.setIfInBounds i true))||(i==s&& !f&&io md ops r s t n (l.drop j) b true (m.setIfInBounds i true)))=true:=by
   split at hk
   ·rename_i k e
    exact absurd ⟨k,e⟩ H
   exact hk
  simp only[j6,qG]at d;refine λ_=>⟨λv=>(by rw[v]at d;simp at d),λi K=>?_⟩
  have o:=d.2 i K;simp only[qH,j6,beq_iff_eq,Bool.not_eq_true']at o
  rcases o with(⟨e,k⟩|⟨⟨rfl,rfl⟩,k⟩)|⟨⟨rfl,rfl⟩,k⟩
  ·rw[qJ]at k
   have F:j<l.length:=(nn.1 e).1;exact wpOp_mono (λq w' c=>⟨.inr (p _ _ _ _ _ c),rk u x g p y z B C D n (j+1) b f _ q w' F k c⟩) (z j i e b f a w h)
  ·exact wpOp_mono (λq w' c=>⟨.inr (p _ _ _ _ _ c),rk u x g p y z B C D n j true f _ q w' E k c⟩) (B j f a w h)
  exact wpOp_mono (λq w' c=>⟨.inr (p _ _ _ _ _ c),rk u x g p y z B C D n j b true _ q w' E k c⟩) (C j b a w h)
theorem Hi{r:Nat}{a:Act}{w:ii}(S:ii->Prop)(g:List Nat)(b:List (Nat×Bool))(h k:Nat)(t:Sch)(d:Nat->Bool->Bool->Act->ii->Prop)(s:P.follows .mixedOrders=true)(l:Region.noSelect ops=true)
 (u:sU .any ops g (jP ops.size false)=true) (x:io .any ops h k (mh (b.map Prod.fst++[h,k]) (mh g (jP ops.size false))) (b.length+2) b false false (mh g (jP ops.size false))=true)
 (y:fH .any ops t (mh (b.map Prod.fst++[h,k]) (mh g (jP ops.size false)))=true) (M:g.length+(b.length+2)+t.len<=ops.size) (m:∀c a p w,Q (.panic c) a w->Q (.panic c) p w)
 (z:S w.drew) (q:∀j c e a w,d j c e a w->S w)
 (B:∀j i,b[j]?=T (i,true)->∀c e a w,d j c e a w->∃o v,ops[i]?=T o/\eS P ops S o v a/\d (j+1) c e (a.put o.dst v) w) (o:∀j i,b[j]?=T (i,false)->∀c e a w,d j c e a w->wpOp P ops Q i (d (j+1) c e) a w) (v:∀j e a w,d j false e a w->wpOp P ops Q h (d j true e) a w) (C:∀j c a w,d j c false a w->wpOp P ops Q k (d j c true) a w)
 (j:∀a w,d b.length true true a w->dM P ops Q S t a w) (D:pk P ops S g (d 0 false false) a w.drew):(Code.region r ops true).wp P Q a w:=by
 refine wp_region_any s (ru (S:=S) (f:=ops.size) _ _ _ _ (Closed.zero _) ?_);have e:ops.size=(ops.size-g.length-(b.length+2))+(b.length+2)+g.length:=Y;have c:=ED (md:=.any) (S:=S) l m (K:=d 0 false false) (n:=ops.size-g.length-(b.length+2)+(b.length+2)) (λp w' E=>rk (md:=.any) (fe:=ops.size-g.length-(b.length+2)) l m d q B o v C (λF H i=>iH l m t _ _ _ _ Y y (Sch.waits_size t) (.inr (q _ _ _ _ _ i)) (dF.toF t _ _ (j F H i))) (b.length+2) 0 false false _ p w' (qb _) x E) g _ a w.drew u rfl z D;rw[<-e]at c;exact c
theorem ti{i:Nat}{o:jL}{v:jd}{r:List Nat}{K:Act->ii->Prop}{a:Act}{w:ii}(b:ops[i]?=T o)(c:Region.wanted o (yielded ops a.tmps)=true)
 (d:∀w,S w->(jT a.eval o).run P w=.ok (.value v) w) (h:pk P ops S r K (a.put o.dst v) w):pk P ops S (i::r) K a w:=
 ⟨o,v,b,.inl ⟨c,λw e=>.inl (d w e)⟩,h⟩
end
end
theorem yZ(g:Grp)(a:Int)(l:List Chg):(dh g a l).length<=1000000:=by
 unfold dh
 split
 ·rename_i h
  obtain⟨b,c,d⟩:=mf.1 h;obtain⟨e,f⟩:=tf b c d;have i:=zF (aJ g.tree l) (gA a) 1;rw[wZ e f]at i;show(eB (aJ g.tree l) (gA a) 1).length<=_;omega
 simp
theorem AO(a:Int)(l:List Chg):(dk a l).length<=l.length:=by
 unfold dk eX;rw[(List.mergeSort_perm _ _).length_eq];exact ql _ _
theorem fU{a:Act}{o:jL}{x:lw}{c:Array jd}{b:Nat}{f:ii}{e t:jB}{d:TypeDesc}(g:jf.underlying e=T d)(i:d.isRow=true)(j:(jf.info? e).map (·.size)=T c.size)(k:o.op=.load e x)(m:a.eval x=jj (T ⟨b,0,A⟩))(n:f.heap[b]?=T (ja c t (0,0))):
 (jT a.eval o).run jf f=.ok (.value (je c)) f:=by
 have h:=po (P:=jf) o a e x k b 0 m c.toList _ (te (t:=t) (l:=c.toList) (by simpa using n)) g i (by rw[Array.length_toList];exact j)
 simpa using h
theorem Mk{a:Act}{o:jL}{c:Array (Nat×lw)}{f e:Int}{b:Array jd}(d:b.size=32)(g:o.op=.build 29 c)(h:(c.map fun(i,x)=>(i,a.eval x))= #[(0,I N f),(1,I N e),(2,je b)])(W:ii):
 (jT a.eval o).run jf W=.ok (.value (je (#[I N f,I N e]++b++ #[ic A 0 0,ic A 0 0]))) W:=by
 simp only[jT,g,h,Sem.run_bind,H7 f e b d,Result.andThen_ok,Sem.run_pure]
theorem Lb{a:Act}{o:jL}(b:o.op=.build 29 #[])(W:ii):
 (jT a.eval o).run jf W=.ok (.value (je (aA ⟨0,0,mz 32 0#8,[],[]⟩ (ic A 0 0) (ic A 0 0)).toArray)) W:=by
 simp only[jT,b,qu,kw,Sem.run_bind,ME,Result.andThen_ok,Sem.run_pure]
theorem NI(f e:Int)(d:LBy)(g:d.length=32):∃X c:Array jd,c=(d.map v8).toArray/\c.size=32/\X= #[I N f,I N e]++c++ #[ic A 0 0,ic A 0 0]/\
 X=(aA ⟨f,e,d,[],[]⟩ (ic A 0 0) (ic A 0 0)).toArray/\(jf.info? 29).map (·.size)=T X.size/\X.all (·.oneCell')=true/\X.size=36:=by
 have h:(aA ⟨f,e,d,[],[]⟩ (ic A 0 0) (ic A 0 0)).toArray.size=36:=by rw[jJ,tw g]
 have a: #[I N f,I N e]++(d.map v8).toArray++ #[ic A 0 0,ic A 0 0]=(aA ⟨f,e,d,[],[]⟩ (ic A 0 0) (ic A 0 0)).toArray:=by unfold aA;simp
 refine⟨_,_,rfl,by rw[jJ,jw];exact g,rfl,a,?_,?_,?_⟩
 ·rw[a,h];kernel_rfl
 ·rw[a,qK]
  intro i b;simp only[aA,qL,jC,qf,qM,or_false]at b
  rcases b with rfl|rfl|b|rfl|rfl
  ·rfl
  ·rfl
  ·exact fY _ i b
  ·rfl
  rfl
 rw[a];exact h
theorem F6(g:Grp)(c:Cmt):∀a,a=idC c->∀b v:jd,aA ⟨g.folder,c.epoch,a,[],[]⟩ b v=aA (bX g c) b v:=by
 intro a h b v;rw[h];clear h;unfold bX;generalize idC c=i;dsimp only[aA]
theorem IL(g:Grp)(c:Cmt):(bX g c).last.length=32:=by
 have h:=sQ c;unfold bX
 revert h
 generalize idC c=i;exact λh=>h
theorem Ot(g:Grp)(c:Cmt)(W:ii)(a v:jd)(b:EM.At W a (ee (eF g.mem c.chg c.epoch)))(d:aT W v (im (aJ g.tree c.chg) c.author c.path)):bQ W (bX g c) a v:=by
 have h:=IL g c
 revert h
 unfold bX;generalize idC c=i;exact λh=>⟨b,d,h⟩
def IC(g:Grp)(c:Cmt)(w:ii)(e:jG)(w':ii):Prop:=
 (dc g c=0->∃vm vt,e=jl (jt #[je (aA (bX g c) vm vt).toArray,I N 0])/\bQ w' (bX g c) vm vt)/\
 (dc g c≠0->e=jl (jt #[je (aA eD (ic A 0 0) (ic A 0 0)).toArray,I N (dc g c)]))/\jk w w w'
def zM(g:Grp)(c:Cmt)(w:ii)(e:jG)(w':ii):Prop:=
 (dc g c=0->∃vm vt,e=jl (jt #[je (aA (bX g c) vm vt).toArray,I N 0])/\bQ w' (bX g c) vm vt/\Fr w.heap.size vm/\Fr w.heap.size vt)/\
 (dc g c≠0->e=jl (jt #[je (aA eD (ic A 0 0) (ic A 0 0)).toArray,I N (dc g c)]))/\jk w w w'
theorem Ik(g:Grp)(vm vt:jd)(c:Cmt)(q:CQ)(w:ii)(h:bQ w g vm vt)(hC:ay (·<w.heap.size) w c q)(i:dC (aB c))(hT:cF w)(bk:g.mem.length<=900000)(bl:g.tree.length<=600000):
 jo jf 7 #[je (aA g vm vt).toArray,je (ah c q).toArray] w (zM g c w):=by
 obtain⟨er,al⟩:=J (dc g c);obtain⟨NG,b⟩:=J (bX g c);obtain⟨P,d⟩:=J (zM g c w);have HP:ih (∀e w',((er=0->∃vm vt,e=jl (jt #[je (aA NG vm vt).toArray,I N 0])/\bQ w' NG vm vt/\Fr w.heap.size vm/\Fr w.heap.size vt)/\(er≠0->e=jl (jt #[je (aA eD (ic A 0 0) (ic A 0 0)).toArray,I N er]))/\jk w w w')->P e w'):=O (by
  rw[d,al,b];exact λe w' h=>h)
 rw[<-d];clear d;have ck:ih (∀F,F=idC c->∀ad v:jd,aA ⟨g.folder,c.epoch,F,[],[]⟩ ad v=aA NG ad v):=O (by rw[b];exact F6 g c);have cm:ih (∀(W:ii) (ad v:jd),EM.At W ad (ee (eF g.mem c.chg c.epoch))->aT W v (im (aJ g.tree c.chg) c.author c.path)->bQ W NG ad v):=O (by rw[b];exact Ot g c);clear b;have a2:=O al;have au:=kI (vm:=vm) (vt:=vt) h.llen;have a1:(jf.info? 37).map (·.size)=T (ah c q).toArray.size:=by rw[jJ,dT c q hC.plen hC.clen];exact fa
 have Rh:=kF (vm:=vm) (vt:=vt) h.llen;have bq:=eE c q hC.plen hC.clen;have a3:∀(w:ii) (b:Nat),w.heap[b]?=T (ja (aA g vm vt).toArray 29 (0,0))->w.rangeAt b 2 (g.last.map v8):=λw b hb=>cV.last ⟨hb,h.llen⟩
 have a5:∀(w:ii) (b:Nat),w.heap[b]?=T (ja (ah c q).toArray 37 (0,0))->w.rangeAt b 2 (c.parent.map v8):=λw b hb j v hj=>by
  have d:=(nn.1 hj).1;rw[jw,hC.plen]at d;have h1:=rY c q hC.plen d;refine(cell_of hb (by simpa using h1)).trans ?_;rw[<-hj,ob,j3 (by rw[hC.plen];exact d)];simp[lo,hC.plen,d]
 have HV:ih (∀W,bQ W g vm vt->jo jf 22 #[je (aA g vm vt).toArray] W λe w'=>e=jl (.bool (eJ g))/\jk W W w'):=O (λW d=>zl g vm vt W d Y Y);have HK:ih (∀W,ay (·<W.heap.size) W c q->jo jf 18 #[je (ah c q).toArray] W λe w'=>e=jl (I N (ff c))/\jk W W w'):=O (λW d=>Be c q W d i);have HN:ih (∀W,bQ W g vm vt->EC.At W q.vc c.chg->jo jf 12 #[je (aA g vm vt).toArray,I N c.author,q.vc] W λe w'=>∃ad,e=jl (jt #[ad,I N (cD g c.author c.chg)])/\w'.ownsRow W 74 4 ad (dh g c.author c.chg).length (EB0.flat (dh g c.author c.chg))/\jk W W w'):=O (λW d f=>tj g vm vt _ _ _ W d f Y Y i.lens.1);have bg:ih (∀W,co g->dG c.chg->eV g c.author c.chg->bQ W g vm vt->EC.At W q.vc c.chg->jo jf 29 #[je (aA g vm vt).toArray,I N c.author,q.vc] W λe w'=>e=jl (I N (dt g c.author c.chg))/\jk W W w'):=O (λW hv hf hp d f=>Di g vm vt _ _ _ W d (r5 hv) Y f (λhn=>by
  have h0:=hp.own;rw[hn]at h0;obtain⟨x,r,h1,-⟩:=hp.first (by have:=hv.ep.1;have h2:=of_decide_eq_false h0.symm;omega);rw[h1];simp))
 have YR:ih (∀W,ay (·<W.heap.size) W c q->cF W->jo jf 30 #[je (ah c q).toArray] W λe w'=>∃D,e=jl (ic (T ⟨D,0,A⟩) 32 32)/\BytesAt w' (ic (T ⟨D,0,A⟩) 32 32) (dm c)/\jk W W w'):=O (λW d hT=>El c q W d i hT);have bA:ih (∀W,ay (·<W.heap.size) W c q->cF W->jo jf 16 #[je (ah c q).toArray] W λe w'=>e=jl (je ((idC c).map v8).toArray)/\jk W W w'):=O (λW d hT=>B3 c q W d i hT);have VG:ih (∀W,dG c.chg->bQ W g vm vt->EC.At W q.vc c.chg->jo jf 32 #[je (aA g vm vt).toArray,q.vc] W λe w'=>∃ad,e=jl (je #[ad])/\aT w' ad (aJ g.tree c.chg)/\jk W W w'):=O (λW hf d f=>uC g vm vt _ _ W d hf Y f);obtain⟨aa,hA⟩:=J ((aA g vm vt).toArray);obtain⟨C,H⟩:=J ((ah c q).toArray);rw[<-hA]at au HV HN bg VG a3⊢;rw[<-H]at a1 HK YR bA a5⊢;obtain⟨x0,k⟩:=J ((((w.alloc (ja aa 29)).alloc (ja C 37)).alloc (ja #[I N 0,I N 0,jb jc 0,jb jc 0,jb jc 0,jb jc 0,jb jc 0,jb jc 0,jb jc 0,jb jc 0,jb jc 0,jb jc 0,jb jc 0,jb jc 0,jb jc 0,jb jc 0,jb jc 0,jb jc 0,jb jc 0,jb jc 0,jb jc 0,jb jc 0,jb jc 0,jb jc 0,jb jc 0,jb jc 0,jb jc 0,jb jc 0,jb jc 0,jb jc 0,jb jc 0,jb jc 0,jb jc 0,jb jc 0,ic A 0 0,ic A 0 0] 29)));obtain⟨s,r⟩:=J w.heap.size;have d:=jq w (ja aa 29);have u:=af w (ja aa 29);have a4:=jq (w.alloc (ja aa 29)) (ja C 37);have M:=af (w.alloc (ja aa 29)) (ja C 37);have Q:=jq ((w.alloc (ja aa 29)).alloc (ja C 37)) (ja #[I N 0,I N 0,jb jc 0,jb jc 0,jb jc 0,jb jc 0,jb jc 0,jb jc 0,jb jc 0,jb jc 0,jb jc 0,jb jc 0,jb jc 0,jb jc 0,jb jc 0,jb jc 0,jb jc 0,jb jc 0,jb jc 0,jb jc 0,jb jc 0,jb jc 0,jb jc 0,jb jc 0,jb jc 0,jb jc 0,jb jc 0,jb jc 0,jb jc 0,jb jc 0,jb jc 0,jb jc 0,jb jc 0,jb jc 0,ic A 0 0,ic A 0 0] 29);have V:=af ((w.alloc (ja aa 29)).alloc (ja C 37)) (ja #[I N 0,I N 0,jb jc 0,jb jc 0,jb jc 0,jb jc 0,jb jc 0,jb jc 0,jb jc 0,jb jc 0,jb jc 0,jb jc 0,jb jc 0,jb jc 0,jb jc 0,jb jc 0,jb jc 0,jb jc 0,jb jc 0,jb jc 0,jb jc 0,jb jc 0,jb jc 0,jb jc 0,jb jc 0,jb jc 0,jb jc 0,jb jc 0,jb jc 0,jb jc 0,jb jc 0,jb jc 0,jb jc 0,jb jc 0,ic A 0 0,ic A 0 0] 29);replace d:=av d M;replace d:=av d V;rw[jS]at a4;replace a4:=av a4 V;rw[jS,jS]at Q;have z:=((u).trans (M.mono (u).size)).trans (V.mono ((u).trans (M.mono (u).size)).size);rw[<-k]at z;rw[<-k,<-r]at d;rw[<-k,<-r]at a4;rw[<-k,<-r]at Q;have U:=O d;have QB:=O a4;have S:=O Q;have o:=O z;have HW:=O k;have HG:=O r;have bm:=O h;have Yg:=O hC;have Ye:=h.below z;have br:=hC.below z;obtain⟨B,m⟩:∃y:Array jd,y= #[I N 0,I N 0,jb jc 0,jb jc 0,jb jc 0,jb jc 0,jb jc 0,jb jc 0,jb jc 0,jb jc 0,jb jc 0,jb jc 0,jb jc 0,jb jc 0,jb jc 0,jb jc 0,jb jc 0,jb jc 0,jb jc 0,jb jc 0,jb jc 0,jb jc 0,jb jc 0,jb jc 0,jb jc 0,jb jc 0,jb jc 0,jb jc 0,jb jc 0,jb jc 0,jb jc 0,jb jc 0,jb jc 0,jb jc 0,ic A 0 0,ic A 0 0]:=⟨_,rfl⟩;have bs:(aA eD (ic A 0 0) (ic A 0 0)).toArray=B:=by rw[m];rfl
 have bu:(jf.info? 29).map (·.size)=T B.size:=by rw[m];kernel_rfl
 have bv:B.all (·.oneCell')=true:=by rw[m];kernel_rfl
 replace S:ih (x0.heap[s+1+1]?=T (ja B 29 (0,0))):=O (by rw[m];exact S);have Tj:=O au;have RV:=O a1;have K:=O bu;have Y8:=O bv;have bB:ih (B.size=36):=O (by rw[m];rfl);have WL:=O bs;have Uc:=O Ye;have X:=O br;have cq:=O a3;have cs:=O a5;have bn:=O hT;have YM:=O i;have R2:=O h.llen;have R3:=O hC.plen;have ct:=O hC.clen;have Zw:=O bk;have T6:=O bl;have ba:ih (aa[0]?=T (I N g.folder)/\aa[1]?=T (I N g.epoch)/\aa[34]?=T vm/\aa[35]?=T vt):=O (by rw[hA];simpa using Rh);have t:ih (C[0]?=T (I N c.folder)/\C[1]?=T (I N c.epoch)/\C[34]?=T (I N c.author)/\C[35]?=T q.vc/\C[36]?=T q.vp/\C[37]?=T q.vb/\C[38]?=T q.vw/\C[71]?=T (I N c.r)/\C[72]?=T (I N c.s)):=O (by rw[H];simpa using bq);have Tq:=O hA;have WG:=O H;have SO:=O (tP c);have Zf:=O (uD g c.author c.chg);obtain⟨vb,WU⟩:=J (eJ g);obtain⟨dr,f⟩:=J (ff c);rw[<-WU]at HV Zf;rw[<-f]at HK SO;have bh:=O WU;have bC:=O f;obtain⟨pc,nc,ds,Uj⟩:∃p n c',q.vc=ic p n c':=by obtain⟨p,c',h⟩:=hC.chg.form;exact⟨p,_,c',h⟩
 obtain⟨pp,np,cp,bc⟩:∃p n c',q.vp=ic p n c':=by obtain⟨p,c',h⟩:=hC.path.form;exact⟨p,_,c',h⟩
 obtain⟨pb,nb,dv,bd⟩:∃p n c',q.vb=ic p n c':=by obtain⟨us,h,-⟩:=hC.box;obtain⟨p,c',h⟩:=h.form;exact⟨p,_,c',h⟩
 obtain⟨pw,nw,ea,bf⟩:∃p n c',q.vw=ic p n c':=by obtain⟨us,h,-⟩:=hC.wel;obtain⟨p,c',h⟩:=h.form;exact⟨p,_,c',h⟩
 obtain⟨pm,nm,cu,cv⟩:∃p n c',vm=ic p n c':=by obtain⟨p,c',h,-⟩:=h.mem.form;exact⟨p,_,c',h⟩
 obtain⟨pt,nt,ec,cw⟩:=gE h.tree;rw[Uj]at t HN bg VG;rw[bc,bd,bf]at t;have bb:=O Uj;have cx:=O bc;have bo:=O bd;have bI:=O bf;subst cv;subst cw;clear Ye br m bs bu bv au a1 a3 a5 hT i bk bl hA H Rh bq h hC WU f Uj bc bd bf al;clear z k r d u a4 M Q V
 go_enter func7,ntmps7
 go_upto_region 1 with fail
 rw[<-HW,<-HG];refine jF ?_;refine jK rfl 29 _ rfl s rfl 29 aa (0,0) _ U.out jr rfl Tj ?_
 go_wp2_with fail
 refine(HV x0 Uc).mono ?_;rintro e x1 ⟨rfl,d⟩;have QP:=Z U d;have Q:=Z QB d;have V:=Z S d;have Tt:=O (Uc.below d);have Sk:=O (ay.below X d);have Qj:=ac o d;clear U QB S Uc X o;clear d
 cases vb with
 |false=>
  have m:ih (er=1):=O (by rw[a2];unfold dc;rw[if_pos bh.symm])
  go_upto_region 2 with fail
  refine jF ?_;refine bz (v:=je B) ag (fU jr rfl K rfl rfl V) ?_;refine G ?_;refine jn rfl λ_ r=>jp 29 _ _ rfl (s+1+1) B rfl rfl 29 _ V.out K rfl Y8 (r _ _ ?_)
  clear r;refine G ?_;refine aL ?_;rename_i KR UK XR;refine UK _ _ ?_;refine wp_ret ?_;show jR _ _ P .ret _ _;exact jA (eQ rfl _ _ (s+1+1) 29 B (0,0) _ rfl (jv _ _ _ _ _ _ V.out) jr rfl K) rfl (HP _ _ ⟨λh=>absurd (m.symm.trans h) L,λ_=>by rw[WL,m];kernel_rfl,jD Qj.out (by rw[HG];omega) _⟩)
 |true=>
 go_upto_region 3 with fail
 refine jF ?_;refine jK rfl 37 _ rfl (s+1) rfl 37 C (0,0) _ Q.out jV rfl RV ?_
 go_wp2_with fail
 refine(HK x1 Sk).mono ?_;rintro e x2 ⟨rfl,d⟩;have Re:=Z QP d;have M:=Z Q d;have H:=Z V d;have Ua:=O (Tt.below d);have Ru:=O (ay.below Sk d);have Qk:=ac Qj d;clear QP Q V Tt Sk Qj;clear d
 rcases SO.out with⟨f,rfl⟩|⟨f,rfl⟩
 case inr=>
  have m:ih (er=220):=O (by rw[a2];unfold dc;rw[if_neg (by rw[<-bh];decide),if_pos (by rw[<-bC];decide)])
  go_upto_region 5 with fail
  refine jF ?_;refine bz (v:=je B) ag (fU jr rfl K rfl rfl H) ?_;refine G ?_;refine aL ?_;refine jn rfl λ_ r=>jp 29 _ _ rfl (s+1+1) B rfl rfl 29 _ H.out K rfl Y8 (r _ _ ?_)
  clear r;refine G ?_;refine aL ?_;rename_i KR UK XR;refine UK _ _ ?_;refine wp_ret ?_;show jR _ _ P .ret _ _;exact jA (eQ rfl _ _ (s+1+1) 29 B (0,0) _ rfl (jv _ _ _ _ _ _ H.out) jr rfl K) rfl (HP _ _ ⟨λh=>absurd (m.symm.trans h) L,λ_=>by rw[WL,m];kernel_rfl,jD Qk.out (by rw[HG];omega) _⟩)
 have U5:=O f;clear f;have f:ih (dc g c=if onB g c=false then 220 else if cD g c.author c.chg≠0 then cD g c.author c.chg else if gK g c=false then 220
  else if iX (dt g c.author c.chg) c.r c.s (dm c)=false then 222 else et (aJ g.tree c.chg) c.author c.path):=O (by unfold dc;rw[if_neg (by rw[<-bh];decide),if_neg (by rw[<-bC];decide)])
 obtain⟨fd,z⟩:=J g.folder;obtain⟨ep,i⟩:=J g.epoch;obtain⟨cf,al⟩:=J c.folder;obtain⟨u,au⟩:=J c.epoch;rw[<-z,<-i]at ba;rw[<-al,<-au]at t;have bq:=O z;have SJ:=O i;have bK:=O al;have bk:=O au;have k:co g:=by
  by_cases hx:co g
  ·exact hx
  have h2:=bh.out;rw[gG hx]at h2;cases h2
 have WI:=O k;have ed:0<=ep:=by rw[i];exact k.ep.1
 have eg:ep<=1099511627776:=by rw[i];exact k.ep.2
 clear z i al au k;have c0:=cell_of M t.1;have c1:=cell_of M t.2.1;have a0:=cell_of Re ba.1;have br:=cell_of Re ba.2.1;have Ri:=O (cq _ _ Re.out);have bd:=O (cs _ _ M.out);obtain⟨TL,i⟩:=J ((g.last.map v8).toArray);obtain⟨TP,k⟩:=J ((c.parent.map v8).toArray);obtain⟨bM,al⟩:=J (decide (c.parent=g.last));have bf:=O i;have bl:=O k;have bN:=O al;have bs:∀z,(Op.equalIn 10000 23 (je TP) (je TL)).run jf z=.ok bM z:=by
  rw[i,k,al];exact λz=>uc c.parent g.last R3 R2 z
 clear i k al
 by_cases h1:cf=fd
 case neg=>
  have bc:(cf==fd)=false:=by simpa using h1
  have bO:(cf !=fd)=true:=by simpa using h1
  have m:ih (er=220):=O (by rw[a2,f,if_pos (by unfold onB;rw[<-bK,<-bq,bc];rfl)]);clear h1
  go_upto_region 7 with fail
  refine jF ?_;refine bz (v:=je B) ag (fU jr rfl K rfl rfl H) ?_;refine G ?_;refine jn rfl λ_ r=>jp 29 _ _ rfl (s+1+1) B rfl rfl 29 _ H.out K rfl Y8 (r _ _ ?_)
  clear r;refine G ?_;refine aL ?_;rename_i KR UK XR;refine UK _ _ ?_;refine wp_ret ?_;show jR _ _ P .ret _ _;exact jA (eQ rfl _ _ (s+1+1) 29 B (0,0) _ rfl (jv _ _ _ _ _ _ H.out) jr rfl K) rfl (HP _ _ ⟨λh=>absurd (m.symm.trans h) L,λ_=>by rw[WL,m];kernel_rfl,jD Qk.out (by rw[HG];omega) _⟩)
 have bc:(cf==fd)=true:=by simpa using h1
 have bO:(cf !=fd)=false:=by simpa using h1
 clear h1
 by_cases h2:u=ep+1
 case neg=>
  have a5:(u==ep+1)=false:=by simpa using h2
  have bT:(u !=ep+1)=true:=by simpa using h2
  have m:ih (er=220):=O (by rw[a2,f,if_pos (by unfold onB;rw[<-bk,<-SJ,a5];simp)]);clear h2
  go_upto_region 7 with fail
  refine jF ?_;refine bz (v:=je B) ag (fU jr rfl K rfl rfl H) ?_;refine G ?_;refine jn rfl λ_ r=>jp 29 _ _ rfl (s+1+1) B rfl rfl 29 _ H.out K rfl Y8 (r _ _ ?_)
  clear r;refine G ?_;refine aL ?_;rename_i KR UK XR;refine UK _ _ ?_;refine wp_ret ?_;show jR _ _ P .ret _ _;exact jA (eQ rfl _ _ (s+1+1) 29 B (0,0) _ rfl (jv _ _ _ _ _ _ H.out) jr rfl K) rfl (HP _ _ ⟨λh=>absurd (m.symm.trans h) L,λ_=>by rw[WL,m];kernel_rfl,jD Qk.out (by rw[HG];omega) _⟩)
 have a5:(u==ep+1)=true:=by simpa using h2
 have bT:(u !=ep+1)=false:=by simpa using h2
 have ej:=O h2;clear h2;have a1:(jf.info? 23).map (·.size)=T (c.parent.map v8).length:=by rw[jw,R3];kernel_rfl
 have i:(jf.info? 23).map (·.size)=T (g.last.map v8).length:=by rw[jw,R2];kernel_rfl
 have ZW:=O a1;have UQ:=O i;clear a1 i;have i:qc.wrap (ep+1)=ep+1:=IntWalk.i64_in _ Y
 go_upto_region 6 with fail
 refine jF ?_;iterate 15 refine aL ?_
 refine o8 ag λ_ r=>wp_load_mid 23 _ rfl (s+1) 2 rfl (c.parent.map v8) _ bd.out ow rfl ZW (r _ _ ?_)
 rw[<-bl];refine G ?_;refine aL ?_;refine o8 ag λ_ r=>wp_load_mid 23 _ rfl s 2 rfl (g.last.map v8) _ Ri.out ow rfl UQ (r _ _ ?_)
 rw[<-bf];refine G ?_;clear i
 cases bM with
 |false=>
  have m:ih (er=220):=O (by rw[a2,f,if_pos (by unfold onB;rw[<-bN];simp)])
  go_upto_region 7 with fail
  refine jF ?_;refine bz (v:=je B) ag (fU jr rfl K rfl rfl H) ?_;refine G ?_;refine jn rfl λ_ r=>jp 29 _ _ rfl (s+1+1) B rfl rfl 29 _ H.out K rfl Y8 (r _ _ ?_)
  clear r;refine G ?_;refine aL ?_;rename_i KR UK XR;refine UK _ _ ?_;refine wp_ret ?_;show jR _ _ P .ret _ _;exact jA (eQ rfl _ _ (s+1+1) 29 B (0,0) _ rfl (jv _ _ _ _ _ _ H.out) jr rfl K) rfl (HP _ _ ⟨λh=>absurd (m.symm.trans h) L,λ_=>by rw[WL,m];kernel_rfl,jD Qk.out (by rw[HG];omega) _⟩)
 |true=>
 have i:ih (dc g c=if cD g c.author c.chg≠0 then cD g c.author c.chg else if gK g c=false then 220
  else if iX (dt g c.author c.chg) c.r c.s (dm c)=false then 222 else et (aJ g.tree c.chg) c.author c.path):=O (by rw[f,if_neg (by unfold onB;rw[<-bK,<-bq,<-bk,<-SJ,bc,a5,<-bN];decide)])
 obtain⟨au,k⟩:=J c.author;rw[<-k]at t HN bg Zf;have a3:=O k;clear k;have k:=cell_of M t.2.2.1;have SG:=cell_of M t.2.2.2.1
 go_upto_region 8 with fail
 clear c0 c1 a0 br Ri bd bs bc bO a5 bT bf bl ZW UQ f;refine jF ?_;refine jK rfl 29 _ rfl s rfl 29 aa (0,0) _ Re.out jr rfl Tj ?_
 go_wp2_with fail
 refine(HN x2 Ua.out (by rw[<-bb];exact EK.At.of_sl (E:=EC) Ru.chg)).mono ?_;rintro e x3 ⟨ad,rfl,hu,d⟩;have US:=O (EK.At.of_own (E:=EB0) hu);clear hu k SG;have RF:=Z Re d;have QW:=Z M d;have f:=Z H d;have YY:=O (Ua.below d);have RP:=O (ay.below Ru d);have Qp:=ac Qk d;clear Re M H Ua Ru Qk;clear d;obtain⟨pu,ek,rfl,-,-⟩:=US.form;obtain⟨nu,k⟩:=J ((dh g au c.chg).length);rw[<-k]at US⊢;have em:=O k;clear k
 rcases Zf.out with⟨hx,-⟩|⟨-,-,hx⟩|⟨-,hf,hp,hx⟩
 case inl=>cases hx
 case inr.inl=>
  have m:ih (er=221):=O (by rw[a2,i,<-a3,hx];rfl);rw[hx];clear hx
  go_upto_region 10 with fail
  refine jF ?_;refine bz (v:=je B) ag (fU jr rfl K rfl rfl f) ?_;refine G ?_;refine aL ?_;refine jn rfl λ_ r=>jp 29 _ _ rfl (s+1+1) B rfl rfl 29 _ f.out K rfl Y8 (r _ _ ?_)
  clear r;refine G ?_;refine aL ?_;rename_i KR UK XR;refine UK _ _ ?_;refine wp_ret ?_;show jR _ _ P .ret _ _;exact jA (eQ rfl _ _ (s+1+1) 29 B (0,0) _ rfl (jv _ _ _ _ _ _ f.out) jr rfl K) rfl (HP _ _ ⟨λh=>absurd (m.symm.trans h) L,λ_=>by rw[WL,m];kernel_rfl,jD Qp.out (by rw[HG];omega) _⟩)
 rw[hx];have Tv:ih (dc g c=if gK g c=false then 220 else if iX (dt g c.author c.chg) c.r c.s (dm c)=false then 222 else et (aJ g.tree c.chg) c.author c.path):=O (by rw[i,<-a3,hx];rfl);have Vb:=O (mw.1 hf);have b4:=O (pY.1 hp);clear hf hp hx i;have UR:=O YM.lens;obtain⟨eb,i⟩:=J (decide (c.box.map (λb:Bx=>(b.lev,b.node))=(dh g au c.chg).map (λx:Int×Int=>x)));have bd:=O i;obtain⟨ew,k⟩:=J (decide (c.wel.map Wl.dev=(dk au c.chg).map Chg.d));have bl:=O k;clear i k
 go_upto_region 13 with fail
 cases eb with
 |false=>
  have m:ih (er=220):=O (by rw[a2,Tv,if_pos (by unfold gK;rw[<-a3];have h:=bd.out;rw[List.map_id']at h;rw[<-h];rfl)]);refine j9 ?_;refine bi (λk=>k.heap[s+1]?=T (ja C 37 (0,0))) (.take 0 (.take 1 (.take 2 (.take 3 (.one 4 (.take 5 (.take 6 (.take 7 (.take 8 (.take 9 (.take 10 (.take 11 (.take 12 (.take 14 (.one 13 (.one 15 (.take 16 (.take 17 .done)))))))))))))))))) ae ae ae L (λ_ _ _ _ h=>h) QW ?_;obtain⟨z0,Qs⟩:=J x3.drew;have d:=aP x3;rw[<-Qs]at d⊢;have U:=Z RF d;have QB:=Z QW d;have S:=Z f d;have Uc:=O (YY.below d);have X:=O (ay.below RP d);have o:=ac Qp d;have Yn:=O (US.below d);clear d Qs RF QW f YY RP Qp US;refine aC ?_
  (refine az (v:=?_) rfl ag (λk i=>?_) ?_;rotate_left;(have b0:=cell_of i t.2.2.1;have b1:=cell_of i t.2.2.2.1;have b2:=cell_of i t.2.2.2.2.2.1;have b3:=cell_of i t.2.2.2.2.2.2.1;go_simp;with_reducible rfl);refine G ?_)
  iterate 2 refine aC ?_
  refine ai rfl (λK' r=>?_);go_simp;refine(wC c.box (dh g au c.chg) _ _ z0 (by rw[<-bo];exact X.box) Yn UR.2.2.1 (yZ g au c.chg)).mono ?_;rintro e z1 ⟨rfl,d⟩;rw[<-bd];have QP:=Z U d;have Q:=Z QB d;have V:=Z S d;have Tt:=O (Uc.below d);have Sk:=O (ay.below X d);have Qj:=ac o d;have Ub:=O (Yn.below d);clear U QB S Uc X o Yn;clear d;refine r _ _ Q.out λ_=>?_
  clear r;refine G ?_;iterate 2 refine aC ?_
  iterate 7 refine gH ?_
  refine ai rfl (λK' r=>?_);rw[if_neg (qN.1 ag)];refine r _ _ Q.out λ_=>?_
  clear r;refine G ?_;refine ai rfl (λK' r=>?_);rw[if_neg (qN.1 ag)];refine r _ _ Q.out λ_=>?_
  clear r;refine G ?_;refine gH ?_;refine aC ?_;refine j1 ?_
  go_upto_region 14 with fail
  refine jF ?_;refine bz (v:=je B) ag (fU jr rfl K rfl rfl V) ?_;refine G ?_;refine jn rfl λ_ r=>jp 29 _ _ rfl (s+1+1) B rfl rfl 29 _ V.out K rfl Y8 (r _ _ ?_)
  clear r;refine G ?_;refine aL ?_;rename_i KR UK XR;refine UK _ _ ?_;refine wp_ret ?_;show jR _ _ P .ret _ _;exact jA (eQ rfl _ _ (s+1+1) 29 B (0,0) _ rfl (jv _ _ _ _ _ _ V.out) jr rfl K) rfl (HP _ _ ⟨λh=>absurd (m.symm.trans h) L,λ_=>by rw[WL,m];kernel_rfl,jD Qj.out (by rw[HG];omega) _⟩)
 |true=>
 cases ew with
 |false=>
  have m:ih (er=220):=O (by rw[a2,Tv,if_pos (by unfold gK;rw[<-a3,<-bl];simp)]);refine j9 ?_;refine bi (λk=>k.heap[s+1]?=T (ja C 37 (0,0))) (.take 0 (.take 1 (.take 2 (.take 3 (.one 4 (.take 5 (.take 6 (.take 7 (.take 8 (.take 9 (.take 10 (.take 11 (.take 12 (.take 14 (.one 13 (.one 15 (.take 16 (.take 17 .done)))))))))))))))))) ae ae ae L (λ_ _ _ _ h=>h) QW ?_;obtain⟨z0,Qs⟩:=J x3.drew;have d:=aP x3;rw[<-Qs]at d⊢;have U:=Z RF d;have QB:=Z QW d;have S:=Z f d;have Uc:=O (YY.below d);have X:=O (ay.below RP d);have o:=ac Qp d;have Yn:=O (US.below d);clear d Qs RF QW f YY RP Qp US;refine aC ?_
  (refine az (v:=?_) rfl ag (λk i=>?_) ?_;rotate_left;(have b0:=cell_of i t.2.2.1;have b1:=cell_of i t.2.2.2.1;have b2:=cell_of i t.2.2.2.2.2.1;have b3:=cell_of i t.2.2.2.2.2.2.1;go_simp;with_reducible rfl);refine G ?_)
  iterate 2 refine aC ?_
  refine ai rfl (λK' r=>?_);go_simp;refine(wC c.box (dh g au c.chg) _ _ z0 (by rw[<-bo];exact X.box) Yn UR.2.2.1 (yZ g au c.chg)).mono ?_;rintro e z1 ⟨rfl,d⟩;rw[<-bd];have QP:=Z U d;have Q:=Z QB d;have V:=Z S d;have Tt:=O (Uc.below d);have Sk:=O (ay.below X d);have Qj:=ac o d;have Ub:=O (Yn.below d);clear U QB S Uc X o Yn;clear d;refine r _ _ Q.out λ_=>?_
  clear r;refine G ?_;iterate 3 refine aC ?_
  (refine az (v:=?_) rfl ag (λk i=>?_) ?_;rotate_left;(have b0:=cell_of i t.2.2.1;have b1:=cell_of i t.2.2.2.1;have b2:=cell_of i t.2.2.2.2.2.1;have b3:=cell_of i t.2.2.2.2.2.2.1;go_simp;with_reducible rfl);refine G ?_)
  refine aC ?_
  (refine az (v:=?_) rfl ag (λk i=>?_) ?_;rotate_left;(have b0:=cell_of i t.2.2.1;have b1:=cell_of i t.2.2.2.1;have b2:=cell_of i t.2.2.2.2.2.1;have b3:=cell_of i t.2.2.2.2.2.2.1;go_simp;with_reducible rfl);refine G ?_)
  refine aC ?_
  (refine az (v:=?_) rfl ag (λk i=>?_) ?_;rotate_left;(have b0:=cell_of i t.2.2.1;have b1:=cell_of i t.2.2.2.1;have b2:=cell_of i t.2.2.2.2.2.1;have b3:=cell_of i t.2.2.2.2.2.2.1;go_simp;with_reducible rfl);refine G ?_)
  refine aC ?_;refine ai rfl (λK' r=>?_);rw[if_pos ag];go_simp;refine(vR au c.chg _ z1 (by rw[<-bb];exact EK.At.of_sl (E:=EC) Sk.chg) Vb.once UR.1).mono ?_;rintro e z2 ⟨ad,rfl,hu,d⟩;have al:=O hu;clear hu;obtain⟨py,cy,rfl,-,-⟩:=al.form;have Re:=Z QP d;have M:=Z Q d;have H:=Z V d;have Ua:=O (Tt.below d);have Ru:=O (ay.below Sk d);have Qk:=ac Qj d;have bf:=O (Ub.below d);clear QP Q V Tt Sk Qj Ub;clear d;refine r _ _ M.out λ_=>?_
  clear r;refine G ?_;refine ai rfl (λK' r=>?_);rw[if_pos ag];go_simp;refine(Cn c.wel (dk au c.chg) _ _ z2 (by rw[<-bI];exact Ru.wel) al UR.2.2.2 (by have:=AO au c.chg;have:=UR.1;omega)).mono ?_;rintro e z3 ⟨rfl,d⟩;rw[<-bl];have RF:=Z Re d;have QW:=Z M d;have f:=Z H d;have YY:=O (Ua.below d);have RP:=O (ay.below Ru d);have Qp:=ac Qk d;have US:=O (bf.below d);clear Re M H Ua Ru Qk bf al;clear d;refine r _ _ QW.out λ_=>?_
  clear r;refine G ?_;iterate 2 refine aC ?_
  refine j1 ?_
  go_upto_region 14 with fail
  refine jF ?_;refine bz (v:=je B) ag (fU jr rfl K rfl rfl f) ?_;refine G ?_;refine jn rfl λ_ r=>jp 29 _ _ rfl (s+1+1) B rfl rfl 29 _ f.out K rfl Y8 (r _ _ ?_)
  clear r;refine G ?_;refine aL ?_;rename_i KR UK XR;refine UK _ _ ?_;refine wp_ret ?_;show jR _ _ P .ret _ _;exact jA (eQ rfl _ _ (s+1+1) 29 B (0,0) _ rfl (jv _ _ _ _ _ _ f.out) jr rfl K) rfl (HP _ _ ⟨λh=>absurd (m.symm.trans h) L,λ_=>by rw[WL,m];kernel_rfl,jD Qp.out (by rw[HG];omega) _⟩)
 |true=>
 have Ys:ih (dc g c=if iX (dt g c.author c.chg) c.r c.s (dm c)=false then 222 else et (aJ g.tree c.chg) c.author c.path):=O (by rw[Tv,if_neg (by unfold gK;rw[<-a3,<-bl];have h:=bd.out;rw[List.map_id']at h;rw[<-h];decide)]);refine j9 ?_;refine bi (λk=>k.heap[s+1]?=T (ja C 37 (0,0))) (.take 0 (.take 1 (.take 2 (.take 3 (.one 4 (.take 5 (.take 6 (.take 7 (.take 8 (.take 9 (.take 10 (.take 11 (.take 12 (.take 14 (.one 13 (.one 15 (.take 16 (.take 17 .done)))))))))))))))))) ae ae ae L (λ_ _ _ _ h=>h) QW ?_;obtain⟨z0,Qs⟩:=J x3.drew;have d:=aP x3;rw[<-Qs]at d⊢;have U:=Z RF d;have QB:=Z QW d;have S:=Z f d;have Uc:=O (YY.below d);have X:=O (ay.below RP d);have o:=ac Qp d;have Yn:=O (US.below d);clear d Qs RF QW f YY RP Qp US;refine aC ?_
 (refine az (v:=?_) rfl ag (λk i=>?_) ?_;rotate_left;(have b0:=cell_of i t.2.2.1;have b1:=cell_of i t.2.2.2.1;have b2:=cell_of i t.2.2.2.2.2.1;have b3:=cell_of i t.2.2.2.2.2.2.1;go_simp;with_reducible rfl);refine G ?_)
 iterate 2 refine aC ?_
 refine ai rfl (λK' r=>?_);go_simp;refine(wC c.box (dh g au c.chg) _ _ z0 (by rw[<-bo];exact X.box) Yn UR.2.2.1 (yZ g au c.chg)).mono ?_;rintro e z1 ⟨rfl,d⟩;rw[<-bd];have QP:=Z U d;have Q:=Z QB d;have V:=Z S d;have Tt:=O (Uc.below d);have Sk:=O (ay.below X d);have Qj:=ac o d;have Ub:=O (Yn.below d);clear U QB S Uc X o Yn;clear d;refine r _ _ Q.out λ_=>?_
 clear r;refine G ?_;iterate 3 refine aC ?_
 (refine az (v:=?_) rfl ag (λk i=>?_) ?_;rotate_left;(have b0:=cell_of i t.2.2.1;have b1:=cell_of i t.2.2.2.1;have b2:=cell_of i t.2.2.2.2.2.1;have b3:=cell_of i t.2.2.2.2.2.2.1;go_simp;with_reducible rfl);refine G ?_)
 refine aC ?_
 (refine az (v:=?_) rfl ag (λk i=>?_) ?_;rotate_left;(have b0:=cell_of i t.2.2.1;have b1:=cell_of i t.2.2.2.1;have b2:=cell_of i t.2.2.2.2.2.1;have b3:=cell_of i t.2.2.2.2.2.2.1;go_simp;with_reducible rfl);refine G ?_)
 refine aC ?_
 (refine az (v:=?_) rfl ag (λk i=>?_) ?_;rotate_left;(have b0:=cell_of i t.2.2.1;have b1:=cell_of i t.2.2.2.1;have b2:=cell_of i t.2.2.2.2.2.1;have b3:=cell_of i t.2.2.2.2.2.2.1;go_simp;with_reducible rfl);refine G ?_)
 refine aC ?_;refine ai rfl (λK' r=>?_);rw[if_pos ag];go_simp;refine(vR au c.chg _ z1 (by rw[<-bb];exact EK.At.of_sl (E:=EC) Sk.chg) Vb.once UR.1).mono ?_;rintro e z2 ⟨ad,rfl,hu,d⟩;have al:=O hu;clear hu;obtain⟨py,cy,rfl,-,-⟩:=al.form;have Re:=Z QP d;have M:=Z Q d;have H:=Z V d;have Ua:=O (Tt.below d);have Ru:=O (ay.below Sk d);have Qk:=ac Qj d;have bf:=O (Ub.below d);clear QP Q V Tt Sk Qj Ub;clear d;refine r _ _ M.out λ_=>?_
 clear r;refine G ?_;refine ai rfl (λK' r=>?_);rw[if_pos ag];go_simp;refine(Cn c.wel (dk au c.chg) _ _ z2 (by rw[<-bI];exact Ru.wel) al UR.2.2.2 (by have:=AO au c.chg;have:=UR.1;omega)).mono ?_;rintro e z3 ⟨rfl,d⟩;rw[<-bl];have RF:=Z Re d;have QW:=Z M d;have f:=Z H d;have YY:=O (Ua.below d);have RP:=O (ay.below Ru d);have Qp:=ac Qk d;have US:=O (bf.below d);clear Re M H Ua Ru Qk bf al;clear d;refine r _ _ QW.out λ_=>?_
 clear r;refine G ?_;iterate 2 refine aC ?_
 refine j1 ?_;clear YY RP US
 go_upto_region 15 with fail
 refine j9 ?_;refine bi (λk=>k.heap[s]?=T (ja aa 29 (0,0))/\k.heap[s+1]?=T (ja C 37 (0,0))) (.take 0 (.take 1 (.take 2 (.take 3 (.take 4 (.take 6 (.take 8 (.take 9 (.one 5 (.one 7 (.one 10 (.take 11 .done)))))))))))) ae ae ae L (λ_ _ _ _ h=>h) ⟨RF,QW⟩ ?_;obtain⟨y0,Qs⟩:=J z3.drew;have d:=aP z3;rw[<-Qs]at d⊢;have VF:=Z RF d;have Te:=Z QW d;have Tf:=Z f d;have Sl:=ac Qp d;clear d Qs RF QW f Qp;have U:=VF;clear VF;have QB:=Te;clear Te;have S:=Tf;clear Tf;have o:=Sl;clear Sl
 (refine az (v:=je aa) rfl ag (λk i=>fU jr rfl Tj rfl rfl i.1) ?_;refine G ?_)
 refine aC ?_
 (refine az (v:=?_) rfl ag (λk i=>?_) ?_;rotate_left;(have b0:=cell_of i.2 t.2.2.1;have b1:=cell_of i.2 t.2.2.2.1;have b2:=cell_of i.2 t.2.2.2.2.2.2.2.1;have b3:=cell_of i.2 t.2.2.2.2.2.2.2.2;go_simp;with_reducible rfl);refine G ?_)
 refine aC ?_
 (refine az (v:=?_) rfl ag (λk i=>?_) ?_;rotate_left;(have b0:=cell_of i.2 t.2.2.1;have b1:=cell_of i.2 t.2.2.2.1;have b2:=cell_of i.2 t.2.2.2.2.2.2.2.1;have b3:=cell_of i.2 t.2.2.2.2.2.2.2.2;go_simp;with_reducible rfl);refine G ?_)
 (refine az (v:=je C) rfl ag (λk i=>fU jV rfl RV rfl rfl i.2) ?_;refine G ?_)
 refine aC ?_
 (refine az (v:=?_) rfl ag (λk i=>?_) ?_;rotate_left;(have b0:=cell_of i.2 t.2.2.1;have b1:=cell_of i.2 t.2.2.2.1;have b2:=cell_of i.2 t.2.2.2.2.2.2.2.1;have b3:=cell_of i.2 t.2.2.2.2.2.2.2.2;go_simp;with_reducible rfl);refine G ?_)
 refine ai rfl (λK' r=>?_);go_simp;refine(bg y0 WI Vb b4 (bm.below o) (by rw[<-bb];exact(EK.At.of_sl (E:=EC) Yg.chg).below o)).mono ?_;rintro e y1 ⟨rfl,d⟩;have QP:=Z U d;have Q:=Z QB d;have V:=Z S d;have Qj:=ac o d;clear U QB S o;clear d;refine r _ _ ⟨QP,Q⟩ λ_=>?_
 clear r;refine G ?_;refine ai rfl (λK' r=>?_);go_simp;refine(YR y1 (Yg.below Qj) (bn.below Qj)).mono ?_;rintro e y2 ⟨D,rfl,X,d⟩;have al:=O X;clear X;have Re:=Z QP d;have M:=Z Q d;have H:=Z V d;have Qk:=ac Qj d;clear QP Q V Qj;clear d;refine r _ _ ⟨Re,M⟩ λ_=>?_
 clear r;refine G ?_;refine ai rfl (λK' r=>?_);go_simp;refine(Kq (dt g au c.chg) c.r c.s (dm c) _ (by rw[Ji];decide) y2 al (bn.below Qk)).mono ?_;rintro e y3 ⟨vr,rfl,X,d⟩;have bf:=O X;clear X;have RF:=Z Re d;have QW:=Z M d;have f:=Z H d;have Qp:=ac Qk d;clear Re M H Qk al;clear d;refine r _ _ ⟨RF,QW⟩ λ_=>?_
 clear r;refine G ?_;refine aC ?_;refine j1 ?_;have X:vr=iX (dt g au c.chg) c.r c.s (dm c):=by rw[Bool.eq_iff_iff,wU];exact bf
 have Sw:=O X;clear X bf
 cases vr with
 |false=>
  have m:ih (er=222):=O (by rw[a2,Ys,if_pos (by rw[<-a3];exact Sw.symm)])
  go_upto_region 16 with fail
  refine jF ?_;refine bz (v:=je B) ag (fU jr rfl K rfl rfl f) ?_;refine G ?_;refine jn rfl λ_ r=>jp 29 _ _ rfl (s+1+1) B rfl rfl 29 _ f.out K rfl Y8 (r _ _ ?_)
  clear r;refine G ?_;refine aL ?_;rename_i KR UK XR;refine UK _ _ ?_;refine wp_ret ?_;show jR _ _ P .ret _ _;exact jA (eQ rfl _ _ (s+1+1) 29 B (0,0) _ rfl (jv _ _ _ _ _ _ f.out) jr rfl K) rfl (HP _ _ ⟨λh=>absurd (m.symm.trans h) L,λ_=>by rw[WL,m];kernel_rfl,jD Qp.out (by rw[HG];omega) _⟩)
 |true=>
 have b5:ih (er=et (aJ g.tree c.chg) au c.path):=O (by rw[a2,Ys,if_neg (by rw[<-a3,<-Sw];decide),<-a3]);obtain⟨F,a1⟩:=J (idC c);have bf:F.length=32:=by rw[a1];exact sQ c
 have ZW:=O a1;have al:=O bf;obtain⟨X,cz,hT,bu,hX,bv,bw,b6,br⟩:=NI fd u F bf;have b7:B.size=X.size:=by rw[br];exact bB
 have cA:=O bu;have cL:ih (∀W,ay (·<W.heap.size) W c q->cF W->jo jf 16 #[je C] W λe w'=>e=jl (je cz)/\jk W W w'):=O (by rw[hT,a1];exact bA);have YZ:=O bv;have Zu:=O bw;have cX:=O b6;have c5:=O hX;have c6:=O b7;have bs:=O br;clear hT hX bv bw b6 bu b7 br a1 bf
 go_upto_region 17 with fail
 refine j9 ?_;refine bi (λk=>k.heap[s]?=T (ja aa 29 (0,0))/\k.heap[s+1]?=T (ja C 37 (0,0))) (.take 0 (.take 1 (.take 2 (.take 3 (.take 4 (.one 5 (.take 6 (.one 7 .done)))))))) ae ae ae L (λ_ _ _ _ h=>h) ⟨RF,QW⟩ ?_;obtain⟨u0,Qs⟩:=J y3.drew;have d:=aP y3;rw[<-Qs]at d⊢;have VF:=Z RF d;have Te:=Z QW d;have Tf:=Z f d;have Sl:=ac Qp d;clear d Qs RF QW f Qp;have U:=VF;clear VF;have QB:=Te;clear Te;have S:=Tf;clear Tf;have o:=Sl;clear Sl;refine aC ?_
 (refine az (v:=?_) rfl ag (λk i=>?_) ?_;rotate_left;(have b0:=cell_of i.1 ba.1;have b1:=cell_of i.2 t.2.1;go_simp;with_reducible rfl);refine G ?_)
 refine aC ?_
 (refine az (v:=?_) rfl ag (λk i=>?_) ?_;rotate_left;(have b0:=cell_of i.1 ba.1;have b1:=cell_of i.2 t.2.1;go_simp;with_reducible rfl);refine G ?_)
 (refine az (v:=je C) rfl ag (λk i=>fU jV rfl RV rfl rfl i.2) ?_;refine G ?_)
 refine ai rfl (λK' r=>?_);go_simp;refine(cL u0 (Yg.below o) (bn.below o)).mono ?_;rintro e u1 ⟨rfl,d⟩;have QP:=Z U d;have Q:=Z QB d;have V:=Z S d;have Qj:=ac o d;clear U QB S o;clear d;refine r _ _ ⟨QP,Q⟩ λ_=>?_
 clear r;refine G ?_
 (refine az (v:=je X) rfl ag (λk i=>by rw[c5];exact Mk (f:=fd) (e:=u) cA rfl ae k) ?_;refine G ?_)
 refine ai rfl (λK' r=>?_);rw[if_pos ag];refine jp 29 _ _ rfl (s+1+1) X rfl rfl 29 _ V.out Zu c6 cX (r _ _ ⟨(jy _ _ _ _ Y).trans QP,(jy _ _ _ _ Y).trans Q⟩ λ_=>?_);clear r;have Sn:ih ((u1.setRow (s+1+1) X).heap[s]?=T (ja aa 29 (0,0))):=O ((jy _ _ _ _ Y).trans QP);have RX:ih ((u1.setRow (s+1+1) X).heap[s+1]?=T (ja C 37 (0,0))):=O ((jy _ _ _ _ Y).trans Q);have T0:ih ((u1.setRow (s+1+1) X).heap[s+1+1]?=T (ja X 29 (0,0))):=O (jv _ _ _ _ _ _ V.out);have Rt:=O (jD Qj (show w.heap.size<=s+1+1 by rw[HG];omega) X);generalize u1.setRow (s+1+1) X=u9 at Sn RX T0 Rt⊢;clear QP Q V Qj;refine G ?_;refine j1 ?_;obtain⟨re,a1⟩:=J (et (aJ g.tree c.chg) au c.path);have bf:(aJ g.tree c.chg).length<=800000:=by have:=tN g.tree c.chg;have:=T6.out;have:=Vb.len;omega
 have br:I64 au:=by
  obtain⟨h1,h2⟩:=tf WI Vb b4;exact I64.of Y
 have bu:∀j,I64 (c.path.getD j 0):=λj=>by
  rcases Nat.lt_or_ge j c.path.length with h1|h1
  ·rw[eu _ h1];exact wF (U5.path _ (List.getElem_mem h1))
  rw[show c.path.getD j 0=0 by simp[lo,h1]];exact I64.of Y
 have UL:ih (∀W v,aT W v (aJ g.tree c.chg)->cH W (ic pp np cp) c.path->jo jf 31 #[je #[v],I N au,ic pp np cp] W λe w'=>∃x,e=jl (jt #[je #[x],I N re])/\(aT w' x (im (aJ g.tree c.chg) au c.path)/\Fr W.heap.size x)/\jk W W w'):=O (by
  rw[a1];exact λW v hv hp=>Ly _ v au c.path _ W hv bf br hp UR.2.1 bu)
 have b6:=O a1;have c7:ih (cH w (ic pp np cp) c.path):=O (by rw[<-cx];exact ap.ints Yg.path);clear a1 bf br bu
 go_upto_region 18 with fail
 refine j9 ?_;refine bi (λk=>k.heap[s]?=T (ja aa 29 (0,0))/\k.heap[s+1]?=T (ja C 37 (0,0))) (.take 0 (.take 1 (.take 2 (.take 4 (.take 5 (.take 6 (.take 7 (.one 3 (.one 8 (.take 9 (.take 10 (.take 11 (.take 12 (.one 13 (.take 14 .done))))))))))))))) ae ae ae L (λ_ _ _ _ h=>h) ⟨Sn,RX⟩ ?_;obtain⟨v0,Qs⟩:=J u9.drew;have d:=aP u9;rw[<-Qs]at d⊢;have VF:=Z Sn d;have Te:=Z RX d;have Tf:=Z T0 d;have Sl:=ac Rt d;clear d Qs Sn RX T0 Rt;have U:=VF;clear VF;have QB:=Te;clear Te;have S:=Tf;clear Tf;have o:=Sl;clear Sl
 (refine az (v:=je aa) rfl ag (λk i=>fU jr rfl Tj rfl rfl i.1) ?_;refine G ?_)
 refine aC ?_
 (refine az (v:=?_) rfl ag (λk i=>?_) ?_;rotate_left;(have b0:=cell_of i.2 t.2.2.1;have b1:=cell_of i.2 t.2.2.2.1;have b2:=cell_of i.2 t.2.2.2.2.1;go_simp;with_reducible rfl);refine G ?_)
 refine aC ?_
 (refine az (v:=?_) rfl ag (λk i=>?_) ?_;rotate_left;(have b0:=cell_of i.2 t.2.2.1;have b1:=cell_of i.2 t.2.2.2.1;have b2:=cell_of i.2 t.2.2.2.2.1;go_simp;with_reducible rfl);refine G ?_)
 refine aC ?_
 (refine az (v:=?_) rfl ag (λk i=>?_) ?_;rotate_left;(have b0:=cell_of i.2 t.2.2.1;have b1:=cell_of i.2 t.2.2.2.1;have b2:=cell_of i.2 t.2.2.2.2.1;go_simp;with_reducible rfl);refine G ?_)
 refine ai rfl (λK' r=>?_);go_simp;refine(VG v0 Vb (bm.below o) (by rw[<-bb];exact(EK.At.of_sl (E:=EC) Yg.chg).below o)).mono ?_;rintro e v1 ⟨u1,rfl,hu,d⟩;have i:=O hu;clear hu;obtain⟨p2,n2,c2,rfl⟩:=gE i;have QP:=Z U d;have Q:=Z QB d;have V:=Z S d;have Qj:=ac o d;clear U QB S o;clear d;refine r _ _ ⟨QP,Q⟩ λ_=>?_
 clear r;refine G ?_;refine ai rfl (λK' r=>?_);go_simp;refine(UL v1 _ i.out (dw c7 Qj)).mono ?_;rintro e v2 ⟨x9,rfl,hx,d⟩;have o:=O hx.1;have c8:=O (hx.2.mono Qj.size);clear hx;obtain⟨S,nx,U,rfl⟩:=gE o;have Re:=Z QP d;have M:=Z Q d;have H:=Z V d;have Qk:=ac Qj d;clear QP Q V Qj i;clear d;refine r _ _ ⟨Re,M⟩ λ_=>?_
 clear r;refine G ?_;iterate 4 refine aC ?_
 refine ai rfl (λK' r=>?_);rw[if_pos ag];refine qn 27 _ _ rfl (s+1+1) 35 #[ic S nx U] rfl rfl (lZ H.out (by rw[bs];exact jh _)) nK (by simp[jz]) (r _ _ ⟨(fu _ Y).trans Re,(fu _ Y).trans M⟩ λ_=>?_);clear r;have W:v2.setCells (s+1+1) 35 (#[ic S nx U]:Array jd).toList=v2.setCell ⟨s+1+1,35,A⟩ (ic S nx U):=rfl;rw[W];have Sn:ih ((v2.setCell ⟨s+1+1,35,A⟩ (ic S nx U)).heap[s]?=T (ja aa 29 (0,0))):=O ((fu _ Y).trans Re);have RX:ih ((v2.setCell ⟨s+1+1,35,A⟩ (ic S nx U)).heap[s+1]?=T (ja C 37 (0,0))):=O ((fu _ Y).trans M);have T0:ih ((v2.setCell ⟨s+1+1,35,A⟩ (ic S nx U)).heap[s+1+1]?=T (ja (aA ⟨fd,u,F,[],[]⟩ (ic A 0 0) (ic S nx U)).toArray 29 (0,0))):=O (by
  have h:=iG (i:=35) (ic S nx U) H;rw[YZ,Ag ⟨fd,u,F,[],[]⟩ _ _ _ al.out]at h;exact h)
 have b7:ih (aT (v2.setCell ⟨s+1+1,35,A⟩ (ic S nx U)) (ic S nx U) (im (aJ g.tree c.chg) au c.path)):=O (o.ints (se (i:=35) (X:=X) H T0 (λj hj=>by rw[YZ];exact OA ⟨fd,u,F,[],[]⟩ _ _ _ al.out j hj) (by rw[YZ];exact(kr ⟨fd,u,F,[],[]⟩ _ _ al.out).2.1) (λk _ hk=>fu _ hk)));have Rt:ih (jk w w (v2.setCell ⟨s+1+1,35,A⟩ (ic S nx U))):=O (Qk.setCell (p:=⟨s+1+1,35,A⟩) (by show w.heap.size<=s+1+1;rw[HG];omega) _);generalize v2.setCell ⟨s+1+1,35,A⟩ (ic S nx U)=s9 at Sn RX T0 Rt b7⊢;clear W Re M H Qk o;refine G ?_;refine aC ?_;refine j1 ?_
 by_cases h0:re=0
 case neg=>
  have bc:(re !=0)=true:=by simpa using h0
  have a5:(re==0)=false:=by simpa using h0
  have m:ih (er=re):=O (by rw[b5,b6]);have o:=O h0;clear h0
  go_upto_region 20 with fail
  refine jF ?_;refine bz (v:=je B) ag (by rw[<-WL];exact Lb rfl _) ?_;refine G ?_;refine aL ?_;refine jn rfl λ_ r=>jp 29 _ _ rfl (s+1+1) B rfl rfl 29 _ T0.out K.out (by rw[bB];exact(kr ⟨fd,u,F,[],[]⟩ _ _ al.out).2.2) Y8 (r _ _ ?_)
  clear r;refine G ?_;refine aL ?_;rename_i KR UK XR;refine UK _ _ ?_;refine wp_ret ?_;show jR _ _ P .ret _ _;exact jA (eQ rfl _ _ (s+1+1) 29 B (0,0) _ rfl (jv _ _ _ _ _ _ T0.out) jr rfl K) rfl (HP _ _ ⟨λh=>absurd (m.symm.trans h) o,λ_=>by rw[WL,m];kernel_rfl,jD Rt.out (by rw[HG];omega) _⟩)
 subst h0;have c9:ih (er=0):=O (b5.trans b6.symm);have W:=cell_of Sn ba.2.2.1;have m:cI s9 (s+1) c q:=⟨by rw[RX,WG],R3,ct⟩;have RN:=O m;clear m
 go_upto_region 22 with fail
 go_wp2_with fail
 refine(L2 g.mem (ic pm nm cu) s9 (bm.below Rt).mem (aw Zw)).mono ?_;rintro e t1 ⟨u1,rfl,hu,d⟩;have M:=O hu;have o:=O d;clear hu d W
 go_wp2_with fail
 refine(Gc (MA c q (s+1) s9 RN ((EK.At.of_sl (E:=EC) Yg.chg).below Rt) UR.1) g.mem u1 t1 M o o.size (aw Zw)).mono ?_;rintro e t2 ⟨u2,rfl,hu,a1⟩;have Ra:=O hu;have UO:=O (o.trans a1);obtain⟨p3,c3,b8⟩:=aO hu;obtain⟨n3,W⟩:=J ((g.mem.filter λm=> !eL c.chg m).length);rw[<-W]at b8;subst b8;have YT:=O W;clear hu a1 o M W;have br:s+1+1<s9.heap.size:=(ji.1 T0).1;have M:=(UO.block (s+1+1) br).trans T0;have b9:=cell_of M (kr ⟨fd,u,F,[],[]⟩ _ _ al.out).1;have eq:=LK (o:=34) M;have H:=O M;clear M
 go_upto_region 23 with fail
 obtain⟨mL,bf⟩:∃f:Nat->List Mem,f=λi=>(g.mem.filter λm=> !eL c.chg m)++((c.chg.take i).filter λx=> !(x.k==2)).map λx=>(⟨x.d,u,x.v⟩:Mem):=⟨_,rfl⟩
 have UN:=O bf;have bw:mL 0=g.mem.filter λm=> !eL c.chg m:=by rw[bf];simp
 have ca:∀i,(mL i).length<=900100:=λi=>by
  rw[bf];have h1:=ql (λm=> !eL c.chg m) g.mem;have h2:=ql (λx:Chg=> !(x.k==2)) (c.chg.take i);have h3:=List.length_take_le i c.chg;have M:=Vb.len;have h5:=Zw.out;simp only[jI,jw];have h6:(c.chg.take i).length<=c.chg.length:=List.length_take_le' _ _;omega
 have cb:=O ca;obtain⟨M,hM⟩:=J s9.heap.size;have Rq:ih (s+1+1<M):=O (by rw[hM];exact br);have bu:∀ad v,((λv=>(aA ⟨fd,u,F,[],[]⟩ v (ic S nx U)).toArray) ad).setIfInBounds 34 v=(λv=>(aA ⟨fd,u,F,[],[]⟩ v (ic S nx U)).toArray) v:=λad v=>AE ⟨fd,u,F,[],[]⟩ ad _ v al
 have db:=O bu;have bv:=O hM;have a1:=df.first (M:=M) (R:=s+1+1) (i:=34) (X:=(λv=>(aA ⟨fd,u,F,[],[]⟩ v (ic S nx U)).toArray)) (e:=45) (sz:=3) (w0:=s9) H.out (by rw[hM];exact Ra) (by rw[hM];exact UO) (by rw[hM];exact UO.size) Rq (bu _ (ic p3 n3 c3));rw[<-YT,<-bw]at a1;clear bf bw ca hM bu H Ra UO br;have W:n3=(mL 0).length:=by rw[UN,YT];simp
 generalize t2.setCell ⟨s+1+1,34,A⟩ (ic p3 n3 c3)=W9 at a1⊢;have TH:=O a1;have We:=O W;clear W a1;have hA:W9.heap[s]?=T (ja aa 29 (0,0)):=(TH.but.block s (aw Rq) Y).trans Sn;have hC:W9.heap[s+1]?=T (ja C 37 (0,0)):=(TH.but.block (s+1) (aw Rq) Y).trans RX;have ca:=Yg.chg;rw[bb]at ca;obtain⟨Yc,p1,q1,dd,VH,a4,H⟩:=ca;injection dd with e1 W e3
 subst e1;subst e3;have br:=O W;rw[<-W]at VH H;have cc:=O H;clear Yc a4 H W;have SG:=cell_of hC t.2.2.2.1;have Vp:ih (nc<=64):=O (by rw[br];exact Vb.len);clear hA hC
 go_wp2_with fail
 go_loopw [123] (λv wr=>∃(i m:Nat) (H:Option jQ) (W:Nat),v=I N i/\i<=nc/\ih (m=(mL i).length)/\ih (df M (s+1+1) 29 45 3 (λv=>(aA ⟨fd,u,F,[],[]⟩ v (ic S nx U)).toArray) s9 wr m (ic H m W) (EM.flat (mL i)))) (λv _=>nc-(km v).toNat)
 case atStart=>exact⟨0,n3,p3,c3,rfl,qb _,We,TH⟩
 clear TH We SG;obtain⟨i,m,H,W,rfl,hi,HM,HR⟩:=hrel;have ev:=Vp.out
 by_cases cd:i<nc
 ·have hd:=aj ((i:Int)<(nc:Int))
  have Q3:=aj (i<nc);obtain⟨g0,o,rfl,a4,bf⟩:=cc Y;obtain⟨x,hx,T8⟩:=m5 (l:=c.chg) (j:=i) (by rw[<-br];exact cd);have bu:g0<M:=by have:=Rq.out;have:=HG.out;omega
  have bw:g0≠s+1+1:=aw HG;have R6:=(HR.but.block g0 bu bw).trans (Rt.block g0 a4);have a1:=λk hk=>(bE (a:=⟨g0,o+(i*5+k),A⟩) R6).trans (bf (i*5+k) _ ((flat_get Chg.cells 5 (λ_=>rfl) c.chg i k x hx hk).trans (show x.cells[k]?=T (x.cells.getD k (I N 0)) by have:x.cells.length=5:=rfl;simp[lo,j3 (show k<x.cells.length by omega)])))
  have d0:wr.cell? ⟨g0,o+i*5,A⟩=T (I N x.k):=a1 0 L;have d1:wr.cell? ⟨g0,o+i*5+1,A⟩=T (I N x.d):=a1 1 L;have d2:wr.cell? ⟨g0,o+i*5+2,A⟩=T (I N x.p):=a1 2 L;have d3:wr.cell? ⟨g0,o+i*5+3,A⟩=T (I N x.v):=a1 3 L;have d4:wr.cell? ⟨g0,o+i*5+4,A⟩=T (I N x.c):=a1 4 L;have ce:=Iv g.mem c.chg u T8;have Rp:ih (mL (i+1)=mL i++(if x.k=2 then []else [⟨x.d,u,x.v⟩])):=O (by rw[UN];exact ce);have cj:ih (wr.heap[s+1]?=T (ja C 37 (0,0))):=O ((HR.but.block (s+1) (aw Rq) Y).trans RX);clear bu bw R6 a1 bf hx T8 ce a4
  go_upto_region 26 with fail
  obtain⟨bx,bu⟩:=J wr.heap.size;have a4:=jq wr (ja #[I N x.k,I N x.d,I N x.p,I N x.v,I N x.c] 49);have d:=af wr (ja #[I N x.k,I N x.d,I N x.p,I N x.v,I N x.c] 49);have SX:ih ((ms H m W).ownBlock≠T bx):=O (bW HR.own (.inl (jH bu.symm)));rw[<-bu]at a4⊢;obtain⟨k0,S2⟩:=J (wr.alloc (ja #[I N x.k,I N x.d,I N x.p,I N x.v,I N x.c] 49));rw[<-S2]at a4 d⊢;have bf:=O (HR.later Rq d);have bw:=Z cj d;have Vu:=O a4;clear a4 d S2 bu HR cj d0 d1 d2 d3 d4
  by_cases a4:x.k=2
  ·have a5:(x.k !=2)=false:=by simpa using a4
   have e0:k0.cell? ⟨bx,0,A⟩=T (I N x.k):=cell_of Vu rfl;have Rr:=O a4;clear a4
   go_wp2_with fail
   refine⟨⟨i+1,m,H,W,by go_num,by omega,O ?_,O ?_⟩,?_⟩
   ·rw[Rp,if_pos Rr.out,qk];exact HM
   ·rw[Rp,if_pos Rr.out,qk];exact bf
   simp only[km];omega
  have a5:(x.k !=2)=true:=by simpa using a4
  have e0:k0.cell? ⟨bx,0,A⟩=T (I N x.k):=cell_of Vu rfl;have Rr:=O a4;clear a4;have bu:=O bf.box;have ce:ih (((λv=>(aA ⟨fd,u,F,[],[]⟩ v (ic S nx U)).toArray) (ic H m W))[34]?=T (ic H m W)):=O (kr ⟨fd,u,F,[],[]⟩ _ _ al.out).1;have bs:ih (((λv=>(aA ⟨fd,u,F,[],[]⟩ v (ic S nx U)).toArray) (ic H m W)).size=36):=O (kr ⟨fd,u,F,[],[]⟩ _ _ al.out).2.2
  go_upto_region 27 with fail
  clear e0;refine jF ?_;have b0:=cell_of bu ce;have b1:=cell_of (i:=1) Vu rfl;have b2:=cell_of bw t.2.1;have b3:=cell_of (i:=3) Vu rfl;iterate 9 refine aL ?_
  clear b0 b1 b2 b3;refine jn rfl λ_ r=>?_
  go_simp;have d:=af k0 (ja #[I N x.d,I N u,I N x.v] 45);have Qo:=jq k0 (ja #[I N x.d,I N u,I N x.v] 45);obtain⟨k1,hx⟩:=J (k0.alloc (ja #[I N x.d,I N u,I N x.v] 45));have Ri:=ey k0 [I N x.d,I N u,I N x.v] 45 (0,0) 3 1 1 rfl (jh _);replace Ri:bZ (k0.alloc (ja #[I N x.d,I N u,I N x.v] 45)) (ic (T ⟨k0,0,A⟩) 1 1) 3 1 [I N x.d,I N u,I N x.v]:=Ri;rw[<-hx]at Ri;have UL:=O Ri;clear Ri;rw[<-hx]at d Qo⊢;have a4:=O (bf.later Rq d);have cj:=Z bu d;have Wn:=Z Vu d;have cc:=Z bw d;clear bf bu Vu bw;have S8:=O Qo;clear Qo hx d;refine r _ _ ?_;clear r;refine G ?_;refine jn rfl λ_ r=>?_
  refine Il _ _ rfl M (ic H m W) m _ rfl a4.own _ 1 _ rfl UL (by simp[jz]) (by have h1:=cb i;rw[<-HM]at h1;omega) a4.sz' λv' m2 WZ=>?_
  have Qx:=WZ.own;obtain⟨pn,cn,rfl⟩:=aO Qx;have R1:=eh cj WZ.grown (bW a4.own (.inr Rq));refine r _ _ ?_;replace WZ:=O WZ;have UZ:ih (df M (s+1+1) 29 45 3 (λv=>(aA ⟨fd,u,F,[],[]⟩ v (ic S nx U)).toArray) s9 (m2.setCell ⟨s+1+1,34,A⟩ (ic pn (m+1) cn)) (m+1) (ic pn (m+1) cn) (EM.flat (mL (i+1)))):=O (by
   have h:=a4.push (i:=34) Rq WZ (db _ _);rw[Rp,if_neg Rr.out,EK.flat_append,EK.flat_one];exact h)
  clear r Qx;refine G ?_;refine aL ?_;refine jn rfl λ_ r=>?_
  obtain⟨⟨vo,bf⟩,f3,-,-⟩:=bH (i:=34) (ic pn (m+1) cn) R1 (by rw[bs];decide);go_simp;refine r _ _ ?_;clear r bf f3 R1
  go_wp2_with fail
  refine⟨⟨i+1,m+1,pn,cn,by go_num,by omega,O ?_,UZ⟩,?_⟩
  ·rw[Rp,if_neg Rr.out,jI,<-HM];rfl
  simp only[km];omega
 have hd:=ak ((i:Int)<(nc:Int));have Q3:=ak (i<nc);have a4:mL i=eF g.mem c.chg c.epoch:=by
  rw[UN,bk];dsimp only;unfold eF;rw[qE (by rw[<-br];omega)]
 have e0:=O a4;have b3:ih (Fr w.heap.size (ic H m W)):=O ((Fr.of_own HR.own).mono (by rw[bv];exact Rt.size));have Qx:=HR.own;have UM:=HM.out;rw[a4]at Qx UM;rw[UM]at Qx;have Tz:=O Qx;have ce:=O UM;have b9:=cell_of HR.box (kr ⟨fd,u,F,[],[]⟩ (ic H m W) (ic S nx U) al).1;have Td:=O (Ee (ep:=c.epoch) (nZ WI) Vb.once);have cj:ih ((eF g.mem c.chg c.epoch).length<=1000000):=O (by rw[<-a4];have:=cb i;omega);clear a4 Qx UM
 go_upto_region 29 with fail
 go_wp2_with fail
 refine(F2 (eF g.mem c.chg c.epoch) Td M (ic H m W) wr (by rw[ce];exact Tz) HR.sz' cj).mono ?_;rintro e f1 ⟨rfl,Rh,d⟩;have Sf:=O Rh;have Zi:=O d;have bu:ih (f1.heap[s+1+1]?=T (ja ((λv=>(aA ⟨fd,u,F,[],[]⟩ v (ic S nx U)).toArray) (ic H m W)) 29 (0,0))):=O ((d.block (s+1+1) Rq).trans HR.box);have cn:ih (jk w w f1):=O (Rt.trans ((HR.but.below (n:=w.heap.size) (by rw[HG];omega) (dS Rq HG)).trans (d.mono (dS Rq HG))));have dn:ih (∀k,k<s9.heap.size->k≠s+1+1->f1.heap[k]?=s9.heap[k]?):=O (λk hk hn=>(d.block k (by rw[bv];exact hk)).trans (HR.but.block k (by rw[bv];exact hk) hn));clear Rh d HR b9 hd Q3 cd;obtain⟨d,hY⟩:=J ((λv=>(aA ⟨fd,u,F,[],[]⟩ v (ic S nx U)).toArray) (ic H m W));have bw:d.size=36:=by rw[hY];exact(kr ⟨fd,u,F,[],[]⟩ _ _ al.out).2.2
 have b0:(jf.info? 29).map (·.size)=T d.size:=by rw[bw];kernel_rfl
 have b1:d.all (·.oneCell')=true:=by
  rw[hY,qK];intro ad hu;simp only[aA,qL,jC,qf,qM,or_false]at hu
  rcases hu with rfl|rfl|hu|rfl|rfl
  ·rfl
  ·rfl
  ·exact fY _ ad hu
  ·rfl
  rfl
 have a4:ih (f1.heap[s+1+1]?=T (ja d 29 (0,0))):=O (by rw[hY];exact bu);have b2:=O hY;have bf:=O b0;have cd:=O b1;clear hY bw b0 b1 bu
 go_upto_region 30 with fail
 refine jF ?_;refine bz (v:=je d) ag (fU jr rfl bf rfl rfl a4) ?_;refine G ?_;refine jn rfl λ_ r=>jp 29 _ _ rfl (s+1+1) d rfl rfl 29 _ a4.out bf rfl cd (r _ _ ?_)
 clear r;refine G ?_;refine aL ?_;rename_i KR UK XR;refine UK _ _ ?_;refine wp_ret ?_;show jR _ _ P .ret _ _;refine jA (eQ rfl _ _ (s+1+1) 29 d (0,0) _ rfl (jv _ _ _ _ _ _ a4.out) jr rfl bf) rfl (HP _ _ ⟨λ_=>⟨ic H m W,ic S nx U,?_,cm _ _ _ ?_ ?_,b3,c8⟩,λh=>absurd c9 h,jD cn.out (by rw[HG];omega) _⟩)
 ·rw[b2]
  have h1:(λv=>(aA ⟨fd,u,F,[],[]⟩ v (ic S nx U)).toArray) (ic H m W)=(aA NG (ic H m W) (ic S nx U)).toArray:=by
   show(aA ⟨fd,u,F,[],[]⟩ _ _).toArray=_;rw[bq,bk];exact congrArg List.toArray (ck F ZW _ _)
  exact congrArg (λz=>Ending.returned (jt #[je z,I N 0])) h1
 ·rw[du a4]
  exact Sf
 have h2:(f1.setRow (s+1+1) d).heap[s+1+1]?=T (ja ((λv=>(aA ⟨fd,u,F,[],[]⟩ v (ic S nx U)).toArray) (ic H m W)) 29 (0,0)):=(jv f1 (s+1+1) d _ _ _ a4.out).trans (congrArg (λz=>T (Obj.cells z 29 (0,0))) b2);have h3:aT (f1.setRow (s+1+1) d) (ic S nx U) (im (aJ g.tree c.chg) au c.path):=b7.ints (se (i:=34) (X:=(λv=>(aA ⟨fd,u,F,[],[]⟩ v (ic S nx U)).toArray) (ic A 0 0)) T0 h2 (λj hj=>JS ⟨fd,u,F,[],[]⟩ _ _ _ al.out j hj) (kr ⟨fd,u,F,[],[]⟩ _ _ al.out).1 (λk hk hn=>(jy _ _ _ _ hn).trans (dn k hk hn)));rw[a3]at h3;exact h3
theorem yi(g:Grp)(vm vt:jd)(c:Cmt)(q:CQ)(w:ii)(h:bQ w g vm vt)(d:ay (·<w.heap.size) w c q)(f:dC (aB c))(i:cF w)(j:g.mem.length<=900000)(k:g.tree.length<=600000):
 jo jf 7 #[je (aA g vm vt).toArray,je (ah c q).toArray] w (IC g c w):=by
 refine(Ik g vm vt c q w h d f i j k).mono ?_;rintro e w' ⟨l,m,n⟩;refine⟨λh=>?_,m,n⟩;obtain⟨vm,vt,a,b,-⟩:=l h;exact⟨vm,vt,a,b⟩
end Go.Proofs.YthpmekcffpppkaaGreatDoor
