/- Texts of the proof, part 5 of 8 (Lh Li Lj Lk Ll La Lb Lm Ln Bc Bd Be Bf Bh Bi Bg Bj Bk Bl Bm Bn Bo Bq Wp Bs Bu Bv Bx Lt Ha Hb Jc Ia Ib Rp). -/
import Derived.BigQuiet
import Derived.Deep.MidRow
import Derived.Deep.QuietTactic
import Derived.Deep.CutBlock
import Derived.Deep.DeepCutAuto
import Derived.Shelf.SlSortCmp.NoneTotal
import Derived.Ground.SlsfProg
import Derived.Test.YtpfafeammikibaaGreatDoorRows
import Derived.OpenShut
import Derived.WalkLawsBesides
import Derived.Test.YtpfafeammikibaaGreatDoorZB1
import Derived.Test.YtpfafeammikibaaGreatDoorZB2
import Derived.Test.YtpfafeammikibaaGreatDoorZB3
import Derived.Test.YtpfafeammikibaaGreatDoorZB4
namespace Go.Proofs.YtpfafeammikibaaGreatDoor
set_option maxHeartbeats 64000000
set_option maxRecDepth 100000
set_option linter.unusedVariables false
set_option linter.unusedSimpArgs false
open Go.RowKit
open Go.Proofs.Tryz
open Go.Value renaming int->I
open Go.IntKind renaming i64->N
open _root_.Option renaming some->T,none->hF,isSome_iff_exists->qi,map_some->qs,getD_some->qO,map_map->sg,bind_some->sh
open Go.Value renaming slice->hH,agg->ii,pointer->jd,tuple->jl
open Go.Obj renaming cells->hK
open Go.RowKit renaming Hid->hQ,Below->ic
open Go renaming World->hU,Value->hZ,Calls->ja,Boxed->jj,TypeId->jo,Addr->jp,setRow_other->jJ,wp_store_row->jK,setRow_heap->jL,below_setRow->jM,undef->jN,wp_region_noPanic->jU,bodyPost_ret->j6,Program->kn,grownBy_setCell'->kw,wp_region_lit->lo,wpList_load_row->lv,wpList_plain->qK,run_sliceAt_slice->qM
open Go.Proofs.Tryz renaming prog->ih
open Go.Ending renaming returned->jb
open _root_.List renaming length_map->jc,mem_map->jf,length_append->jk,mem_cons->jm,length_cons->jn,size_toArray->jr,mem_cons_self->js,getElem?_map->ju,mem_of_getElem?->jw,mem_cons_of_mem->jy,map_append->jA,take_of_length_le->jB,getD->jC,getElem?_eq_getElem->jD,length_nil->jE,mem_append->jG,mergeSort_perm->jO,map_map->jQ,replicate->jR,mem_filter->jW,getElem?_eq_some_iff->jY,length_take_le->j0,length_attach->j1,zipIdx_cons->j3,mem_nil_iff->j4,mem_singleton->ki,range->ms,pairwise_map->nn,pairwise_cons->n0,pairwise_iff_getElem->ob,getElem?_append_left->oj,getElem_map->ol,any_eq_false->oo,eq_nil_of_length_eq_zero->ow,map_cons->pz,filter_sublist->p6,cons_append->qa,flatMap_cons->qb,append_assoc->qc,any_eq_true->qd,set_cons_succ->qf,mem_range->qj,getElem_mem->ql,map_congr_left->qm,getElem_of_mem->qn,length_filter_le->qt,getElem?_append_right->qu,length->qv,nodup_append->qw,nil_append->qC,length_take->qD,getElem?_cons_succ->qT,getElem?_take_of_lt->qW,nodup_cons->qX,map_mergeSort->qY,attach_map_subtype_val->qZ,push_toArray->q6,append_toArray->q8,find?_eq_none->q9,set_append_right->ri
open _root_.Nat renaming le_refl->je,le_trans->jh,lt_of_lt_of_le->jz,zero_le->jI,mul_le_mul_right->jP,lt_or_ge->j8,mul_comm->kl,add_le_add->km,pow_le_pow_right->oi,add_assoc->qe,pow_add->qg,mod_lt->qx,div_add_mod->qy,eq_zero_or_pos->qB,le_of_eq->qH,mul_le_mul_left->qI,lt_or_eq_of_le->qP,le_of_lt_succ->qQ,div_lt_of_lt_mul->qV
open Go.World renaming alloc_heap_new->jg,ownsRow_nil->jS,size_alloc->jX,cell?->j7,frozen?->qz,setCell->r3
open Go.Proofs renaming intOf->ji
open _root_.Array renaming getElem?_eq_some_iff->jq,getElem?_modify->qA,length_toList->qE,toList_setIfInBounds->qF,ext'->qG,replicate_succ->q4,replicate_zero->q5,getElem?_setIfInBounds_ne->rn
open Go.RowKit.Below renaming refl->jt,heap_setCell->rv
open Go.NoPanic renaming normal->jv
open Go.Proofs.Tryz renaming underlying3->jF,underlying54->jV,underlying4->lw,results15->mb,results56->qh,underlying5->qJ,underlying31->qL
open Go.Value renaming int->jH,bool->pa,oneCell'->pr
open _root_.BitVec renaming ofInt->jT,eq_of_toNat_eq->qU,toNat_xor->sn
open _root_.Bool renaming eq_iff_iff->jZ,and_eq_true->j9,eq_false_iff->o4
open Go.IntKind renaming u64->j5,i64->mz,wrap_i64->qk,wrap_u64->r4
open _root_.Int renaming eq_ofNat_of_zero_le->qo,ediv_le_self->qN,natCast_ediv->qS
noncomputable def cY(t:List (Int×Int))(d:Int):List (Int×Int):=t.filter λe=> !gW (512+d) e.1
def dz(z:Int×Int):List (Int×Int)->List (Int×Int)
 |[]=>[z]
 |x::r=>if z.1<x.1 then z::x::r else x::dz z r
theorem DN(z:Int×Int):∀l,(dz z l).length=l.length+1
 |[]=>rfl
 |x::r=>by
  unfold dz
  split
  ·rfl
  simp[DN z r]

theorem sK(w:hU):aT w (hH hF 0 0) []:=⟨hF,0,rfl,je _,λ_=>rfl,λh=>absurd h av,λx h=>by cases h⟩
theorem nB{z e:Int×Int}:∀{l:List (Int×Int)},e∈dz z l->e=z\/e∈l
 |[],h=>by left;simpa [dz]using h
 |x::r,h=>by
  unfold dz at h
  split at h
  ·rcases jm.1 h with h|h
   ·exact .inl h
   exact .inr h
  rcases jm.1 h with h|h
  ·exact .inr (h▸js ..)
  rcases nB h with h|h
  ·exact .inl h
  exact .inr (jy _ h)
noncomputable def ia(t:List (Int×Int))(d x:Int):List (Int×Int):=if eQ t d x=0 then dz (512+d,x) (cY t d)else []
noncomputable def lW(t:List (Int×Int))(d:Int):List (Int×Int):=if cQ t d true=0 then cY t d else []
theorem uJ{t:List (Int×Int)}{d:Int}(h:∀e∈t,I64 e.1/\I64 e.2):∀e∈cY t d,I64 e.1/\I64 e.2:=λe he=>h e (jW.1 he).1

def dN(t:List (Int×Int))(d:Int)(l:List Int):Nat->Int->Option Int
 |0,y=>if y=512+d then T (l.getD 0 0)else ft (ofF t) ((512+d)::aR d) y
 |k+1,y=>if y=(aR d).getD k 0 then T (l.getD (k+1) 0)else dN t d l k y
theorem zm{t:List (Int×Int)}{d:Int}{l:List Int}:∀k y,(dN t d l k y).isSome=true->y∈(512+d)::((ms k).map λj=>(aR d).getD j 0)++t.map (·.1)
 |0,y,h=>by
  unfold dN at h
  split at h
  ·rename_i e;rw[e];simp
  obtain⟨v,a⟩:=qi.1 h;simp only[jG,jm,jf];exact .inr ⟨_,mA (nW a).1,rfl⟩
 |k+1,y,h=>by
  unfold dN at h
  split at h
  ·rename_i e
   simp only[jG,jm,jf,qj];exact .inl (.inr ⟨k,by omega,e.symm⟩)
  have:=zm k y h;simp only[jG,jm,jf,qj]at this⊢
  rcases this with(h1|⟨j,h1,h2⟩)|h1
  ·exact .inl (.inl h1)
  ·exact .inl (.inr ⟨j,by omega,h2⟩)
  exact .inr h1
theorem Nk{t:List (Int×Int)}{d:Int}{l:List Int}{k:Nat}{xs:List Int}(h:KeysOf (dN t d l k) xs):xs.length<=t.length+k+1:=by
 have a:xs⊆(512+d)::((ms k).map λj=>(aR d).getD j 0)++t.map (·.1):=λy b=>zm k y (h.2.1 y b).2
 have:=h.1.length_le_of_subset a;simp at this;omega
theorem zd{t:List (Int×Int)}{d:Int}{l:List Int}(b:∀e∈t,I64 e.1/\I64 e.2)(a:∀j,I64 (l.getD j 0)):∀k y v,I64 y->dN t d l k y=T v->I64 v
 |0,y,v,_,h=>by
  unfold dN at h
  split at h
  ·cases h;exact a 0
  exact(b _ (mA (nW h).1)).2
 |k+1,y,v,c,h=>by
  unfold dN at h
  split at h
  ·cases h;exact a (k+1)
  exact zd b a k y v c h
theorem aH.no_cell{P:kn}{k e:jo}{α:Type}{E:EKind P e α}{w:hU}{b n:Nat}{f:Int->Option α}(h:aH E k w b n f){j:Nat}{v:hZ}:w.cell? ⟨b,j,hF⟩≠T v:=by
 obtain⟨D,⟨c,d,a,_⟩,_⟩:=h;unfold j7;rw[a];simp
noncomputable def ef(t:List (Int×Int))(d:Int)(l:List Int):Int:=by classical exact if cQ t d true=0 then(if l.length=10/\gj l then 0 else 50)else cQ t d true
def IG(t:List (Int×Int))(d:Int)(l:List Int)(w:hU)(E:Int)(e:Ending)(w':hU):Prop:=
 ic w w w'/\(E≠0->e=jb (jl #[ii #[hH hF 0 0],I N E]))/\
 (E=0->∃v xs,e=jb (jl #[ii #[v],I N 0])/\KeysOf (dN t d l 9) xs/\aT w' v (cO (dN t d l 9) (xs.mergeSort leI))/\Fr w.heap.size v)
theorem FJ(t:List (Int×Int))(v:hZ)(d:Int)(l:List Int)(a2:hZ)(w:hU)(b:aT w v t)(g:t.length<=900000)(i:I64 d)(hu:cC w a2 l)(k:l.length<=1000000)(m:∀j,I64 (l.getD j 0)):
 ja ih 56 #[ii #[v],I N d,a2] w λe w'=>IG t d l w (ef t d l) e w':=by
 have n:∀e∈t,I64 e.1/\I64 e.2:=by obtain⟨p,c,-,-,-,-,h⟩:=b;exact h
 obtain⟨pl,cl,rfl,al,o⟩:=hu;have u:ic w w ((w.alloc (hK #[v] 52)).alloc (hK #[hH hF 0 0] 52)):=((jt _ w).alloc (je _) _).alloc av _;have S:=O (wj t v d true ((w.alloc (hK #[v] 52)).alloc (hK #[hH hF 0 0] 52)) (b.below u) Y i);have C:jj ((w.alloc (hK #[v] 52)).alloc (hK #[hH hF 0 0] 52)) (w.heap.size+1) 52 (hH hF 0 0):=by
  have h:=jg (w.alloc (hK #[v] 52)) (hK #[hH hF 0 0] 52);rw[jX]at h;exact h
 have Ym:=O n;have X:=O g;have U0:=O o;have au:=O m;have QC:=O k;obtain⟨E,f⟩:=J (cQ t d true);have HE:=O f;rw[<-f]at S;clear b g f n i o m k
 go_enter func56,ntmps56
 go_wp2_with fail
 obtain⟨W0,b⟩:=J ((w.alloc (hK #[v] 52)).alloc (hK #[hH hF 0 0] 52));rw[<-b]at S C u⊢;clear b;refine S.mono ?_;rintro e g ⟨aa,WK,a1⟩;have m:jj g (w.heap.size+1) 52 (hH hF 0 0):=(aa.block _ C.lt).trans C;have D:=O (u.trans (aa.mono u.size));have Qm:=O m;have bw:w.heap.size+1<g.heap.size:=m.lt
 by_cases o:E=0
 ·obtain⟨b,p,c,rfl,i,f,F⟩:=a1 o
  have HM:=O f;have bA:w.heap.size+1<b:=jz C.lt i;have bg:=uI (HE.symm.trans o);have HZ:hQ (I64 (512+d)):=O (I64.of (x:=512+d) Y);have SH:mz.wrap (512+d)=512+d:=by rw[qk];omega
  have Sf:=O F;have H:hQ (∀z,(l.length=10/\gj l->z=0)->(¬(l.length=10/\gj l)->z=50)->ef t d l=z):=O (λz k n=>by
   unfold ef;rw[if_pos (HE.symm.trans o)]
   by_cases h:l.length=10/\gj l
   ·rw[if_pos h,k h]
   rw[if_neg h,n h])
  subst o;obtain⟨d0,d1⟩:=bg;have bh:b<g.heap.size:=f.lt;clear WK a1 aa u C m S f i F
  by_cases r:l.length=10
  ·obtain⟨f,U,rfl,i⟩:=U0 Y
   have RN:=O i;have bk:hQ (cC g (hH (T ⟨f,U,hF⟩) l.length cl) l):=O ⟨_,cl,rfl,al,λ_=>⟨f,U,rfl,λj K=>bp (i j K) (D.block f (dR (i j K)))⟩⟩;have a3:=O (Oj l _ g bk QC);have V:=O r;rw[r]at a3 al⊢;clear i r
   go_wp2_with fail
   refine a3.mono ?_;rintro e n ⟨bB,rfl,RJ,i⟩;have Q2:hQ (jj n (w.heap.size+1) 52 (hH hF 0 0)):=O ((i.block _ Y).trans Qm);have Qk:=O (HM.below i bh);have bl:=i.size;have W:=ac D i;have bm:=O (i);clear i
   by_cases M:gj l
   ·obtain rfl:=RJ.1 M
    have s:=O (H 0 (λ_=>rfl) (λh=>absurd ⟨V,M⟩ h));clear RJ M;have a4:hQ (∀j,j<10->n.cell? ⟨f,U+j,hF⟩=T (I N (l.getD j 0))):=O λj K=>bp (RN j (by rw[V];exact K)) (W.block f (dR (RN j (by rw[V];exact K))))
    have bC:f<w.heap.size:=dR (RN 0 (by rw[V];omega));have bI:n.cell? ⟨f,U,hF⟩=T (I N (l.getD 0 0)):=a4 0 Y;have QT:=O (rc d d0 d1);have Za:=O (vU d d0 d1);have bK:f<n.heap.size:=Y;have q:g.ownsRow W0 3 1 (hH p 9 c) (aR d).length ((aR d).map (jH .i64)):=by rw[QT];exact Sf
    obtain⟨p',c',a5,-,i⟩:=nf q;rw[QT]at a5 i
    cases a5
    obtain⟨P,rfl,bM,bn,k⟩:=i Y;have Pu:=O k;have ba:P≠b:=λe=>by have h:=k 0 Y;rw[e]at h;exact aH.no_cell HM h
    clear q i k
    go_wp2_with (at_mapUpdate;refine mn (E:=cW jF) rfl _ _ _ 170 rfl jF underlying170 b _ _ rfl Qk (by have:=X.out;unfold maxLen;omega) (512+d) rfl HZ (l.getD 0 0) rfl (au 0) ?_;intro Q Zd SF;have QI:=O Zd;have TR:=O SF;have bo:=SF.grown.size;clear Zd SF)
    have O8:hQ (ic w w Q):=O (W.grown TR.grown (a8 W.size) (λj e=>by cases e;omega));have bq:hQ (aH (cW jF) 3 Q b (t.length+1+0) (dN t d l 0)):=O QI;have bN:n.heap.size<=Q.heap.size:=bo;have bO:g.heap.size<=n.heap.size:=bl
    go_wp2_with fail
    go_loopw [39] (λi wr=>∃j:Nat,i=I N j/\j<=9/\hQ (aH (cW jF) 3 wr b (t.length+1+j) (dN t d l j))/\hQ (ic w w wr)/\hQ (∀k,k<Q.heap.size->k≠b->wr.heap[k]?=Q.heap[k]?)/\Q.heap.size<=wr.heap.size) (λi _=>9-(ji i).toNat)
    case atStart=>exact⟨0,rfl,jI _,bq,O8,O (λ_ _ _=>rfl),je _⟩
    obtain⟨j,rfl,K,bb,QX,ad,bT⟩:=hrel
    by_cases bc:j<9
    ·have br:=ap ((j:Int)<9)
     have cy:wr.cell? ⟨P,j,hF⟩=T (I N ((aR d).getD j 0)):=bp (bp (bp (Pu j bc) (bm.block P bn)) (TR.grown.block P Y (by simpa using ba))) (ad P Y ba);have cz:wr.cell? ⟨f,U+(j+1),hF⟩=T (I N (l.getD (j+1) 0)):=bp (bp (a4 (j+1) Y) (TR.grown.block f Y (by simp;omega))) (ad f Y Y);have q:j<(aR d).length:=by rw[QT];exact bc
     have bd:(aR d).getD j 0=(aR d)[j]:=by simp[jC,q]
     have bf:hQ (0<=(aR d).getD j 0/\(aR d).getD j 0<1024):=O (by rw[bd];exact Za _ (ql q));obtain⟨y,R⟩:=J ((aR d).getD j 0);obtain⟨z,i⟩:=J (l.getD (j+1) 0);rw[<-R]at cy bf;rw[<-i]at cz;have bs:hQ (I64 y):=O (I64.of (x:=y) (aw bf));have bu:hQ (I64 z):=O (by rw[i];exact au _);have HY:=O R;have bv:=O i;have b0:P<wr.heap.size:=Y;have b1:f<wr.heap.size:=Y;clear q bd R i
     go_wp2_with (at_mapUpdate;refine mn (E:=cW jF) rfl _ _ _ 170 rfl jF underlying170 b _ _ rfl bb (by have:=X.out;unfold maxLen;omega) y rfl bs z rfl bu ?_;intro w5 q i;have Y7:=O q;have bd:=O i;have R:=i.grown.size;clear q i)
     refine⟨⟨j+1,by go_num,by omega,O ?_,O (QX.grown bd.grown (a8 QX.size) (λj e=>by cases e;omega)),O λk hk R=>(bd.grown.block k Y (by simpa using R)).trans (ad k hk R),by omega⟩,by simp only[ji];omega⟩;refine aH.congr Y7 (λx _=>?_);show(if x=y then T z else dN t d l j x)=dN t d l (j+1) x;rw[HY,bv]
     rfl
    have br:=ar ((j:Int)<9);obtain rfl:j=9:=Y;have Rk:hQ (jj wr (w.heap.size+1) 52 (hH hF 0 0)):=O ((ad _ Y Y).trans ((TR.grown.block _ Y (by simp;omega)).trans Q2));have bs:w.heap.size+1<wr.heap.size:=Y
    go_wp2_with fail
    refine(yx b (t.length+1+9) (dN t d l 9) wr bb (aw X) (λxs h=>jh (Nk h) (aw X)) (zd Ym au 9)).mono ?_;rintro e w4 ⟨v',xs,rfl,bd,⟨F,bf⟩,i⟩;obtain⟨q,k,rfl⟩:=sc F;have y:hQ (jj w4 (w.heap.size+1) 52 (hH hF 0 0)):=O ((i.block _ bs).trans Rk);have Pf:=ac QX i;have Ul:=O bd;have PT:=O F;have bu:=O bf;have z:=y.cell;have cf:=y.frozen;clear bd F bf i
    go_wp2_with fail
    have UG:=O (kw w4 (w.heap.size+1) (hH q (cO (dN t d l 9) (xs.mergeSort leI)).length k));have i:=(Boxed.set (hH q (cO (dN t d l 9) (xs.mergeSort leI)).length k) y).cell;refine j6 (v:=jl #[ii #[hH q (cO (dN t d l 9) (xs.mergeSort leI)).length k],I N 0]) (by simp[results,qh,go_sem,i]) rfl ?_;refine⟨Pf.grown UG (a8 Pf.size) (λj e=>by cases e;omega),λh=>absurd s h,λ_=>⟨_,xs,rfl,Ul,?_,(Fr.of_own PT).mono Y⟩⟩;exact vx (B:=wr.heap.size) (ownsRow_setCell_below PT (a:=⟨w.heap.size+1,0,hF⟩) (by show w.heap.size+1<wr.heap.size;omega) _) bu
   obtain rfl:=RJ.2 M;have s:=O (H 50 (λh=>absurd h.2 M) (λ_=>rfl));have z:=Q2.cell;have cf:=Q2.frozen;have i:=(Boxed.set (hH hF 0 0) Q2).cell;clear RJ M
   go_wp2_with fail
   refine j6 (v:=jl #[ii #[hH hF 0 0],I N 50]) (by simp[results,qh,go_sem,i]) rfl ?_;exact⟨W.grown (kw n (w.heap.size+1) _) (a8 W.size) (λj e=>by cases e;omega),λ_=>by rw[s],λh=>absurd (s.symm.trans h) G⟩
  obtain⟨n,R⟩:=J l.length;rw[<-R]at al r⊢;have f:=O R;have k:=ar ((n:Int)=10);have q:=ar (n=10);have y:((n:Int)!=10)=true:=by simp;omega
  have s:=O (H 50 (λh=>absurd (f.trans h.1) r) (λ_=>rfl));have V:=O r;have z:=Qm.cell;have cf:=Qm.frozen;have i:=(Boxed.set (hH hF 0 0) Qm).cell;clear R r
  go_wp2_with fail
  refine j6 (v:=jl #[ii #[hH hF 0 0],I N 50]) (by simp[results,qh,go_sem,i]) rfl ?_;exact⟨D.grown (kw g (w.heap.size+1) _) (a8 D.size) (λj e=>by cases e;omega),λ_=>by rw[s],λh=>absurd (s.symm.trans h) G⟩
 obtain rfl:=WK o;have b:=ar (E=0);have z:=m.cell;have cf:=m.frozen;have i:=(Boxed.set (hH hF 0 0) m).cell;clear WK a1 aa u C m S
 go_wp2_with fail
 have H:hQ (ef t d l=E):=O (by unfold ef;rw[if_neg (by rw[<-HE];exact o)];exact HE.symm);refine j6 (v:=jl #[ii #[hH hF 0 0],I N E]) (by simp[results,qh,go_sem,i]) rfl ?_;exact⟨D.grown (kw g (w.heap.size+1) _) (a8 D.size) (λj e=>by cases e;omega),λ_=>by rw[H],λh=>absurd (H.symm.trans h) o⟩
noncomputable def io(t:List (Int×Int))(d:Int)(l:List Int):Nat->List (Int×Int)
 |0=>cY t d
 |k+1=>dz ((512+d)/2^k,l.getD k 0) (io t d l k)
noncomputable def kE(t:List (Int×Int))(d:Int)(l:List Int):List (Int×Int):=if ef t d l=0 then io t d l 10 else []
theorem IZ{d:Int}{k:Nat}(a:0<=d)(b:d<512):0<=(512+d)/2^k/\(512+d)/2^k<=1023:=by
 have c:(0:Int)<2^k:=by exact_mod_cast Nat.two_pow_pos k
 refine⟨Int.ediv_nonneg Y Y,?_⟩;have:(512+d)/2^k<=512+d:=qN _ Y;omega
theorem AB{t:List (Int×Int)}{d:Int}{l:List Int}(h:∀e∈t,I64 e.1/\I64 e.2)(a:∀j,I64 (l.getD j 0))(b:0<=d)(c:d<512):∀k,∀e∈io t d l k,I64 e.1/\I64 e.2
 |0,e,he=>uJ h e he
 |k+1,e,he=>by
  unfold io at he
  rcases nB he with rfl|he
  ·exact⟨I64.of (by have:=IZ (k:=k) b c;omega),a k⟩
  exact AB h a b c k e he
def Str(t:List (Int×Int)):Prop:=t.Pairwise λa b=>a.1<b.1
def Wf(t:List (Int×Int)):Prop:=∀e∈t,I64 e.1/\I64 e.2
theorem Str.keys{t:List (Int×Int)}(h:Str t):(t.map (·.1)).Pairwise (·<·):=nn.2 h
theorem kq(e:Int×Int)(t:List (Int×Int))(x:Int):ofF (e::t) x=if e.1=x then T e.2 else ofF t x:=by
 unfold ofF;rw[List.find?_cons]
 by_cases h:e.1=x
 ·simp[h]
 have a:(e.1==x)=false:=by simpa using h
 simp[h,a]
theorem Ew:∀{t:List (Int×Int)},Str t->∀e∈t,ofF t e.1=T e.2
 |[],_,e,he=>by cases he
 |y::t,h,e,he=>by
  rw[kq];have a:=n0.1 h
  rcases jm.1 he with rfl|he
  ·rw[if_pos rfl]
  rw[if_neg (a8 (a.1 e he))];exact Ew a.2 e he
theorem zh{t:List (Int×Int)}(h:Str t):(t.map (·.1)).map (λx=>(x,(ofF t x).getD 0))=t:=by
 rw[jQ];have:∀e∈t,((λx=>(x,(ofF t x).getD 0))∘(·.1)) e=id e:=λe he=>by
  simp only[Function.comp,Ew h e he,qO,id]
 rw[qm this,List.map_id]
theorem sL{t:List (Int×Int)}{x:Int}:(ofF t x).isSome=true↔x∈t.map (·.1):=by
 rw[yZ,jf]
theorem JN{s t:List (Int×Int)}(b:Str s)(c:Str t)(d:Wf s)(f:Wf t)(h:∀x,I64 x->ofF s x=ofF t x):s=t:=by
 have hk:s.map (·.1)=t.map (·.1):=LY b.keys c.keys (λx=>by
  rw[<-sL,<-sL]
  constructor
  ·intro a
   obtain⟨e,he,rfl⟩:=jf.1 (sL.1 a);rw[<-h _ (d e he).1];exact a
  intro a;obtain⟨e,he,rfl⟩:=jf.1 (sL.1 a);rw[h _ (f e he).1];exact a)
 rw[<-zh b,<-zh c,<-hk];refine qm λx a=>?_
 obtain⟨e,he,rfl⟩:=jf.1 a;rw[h _ (d e he).1]
def Good(t:List (Int×Int)):Prop:=Str t/\∀e∈t,1<=e.1/\e.1<=1023/\aN e.2/\mc t e.1
theorem getD_at{t:List (Int×Int)}{i:Nat}(a:i<t.length):t.getD i (0,0)=t[i]:=by simp[jC,a]
theorem JE{t:List (Int×Int)}(h:∀i,i+1<t.length->(t.getD i (0,0)).1<(t.getD (i+1) (0,0)).1):Str t:=by
 have d:∀j,j<t.length->∀i,i<j->(t.getD i (0,0)).1<(t.getD j (0,0)).1:=by
  intro j
  induction j with
  |zero=>intro _ i a;omega
  |succ j e=>
   intro b i a;have f:=h j b
   rcases qP (qQ a)with c|c
   ·have:=e Y i c;omega
   rw[c];exact f
 unfold Str;rw[ob];intro i j a b c;have:=d j b i c
 rwa [getD_at a,getD_at b]at this
theorem kC{t:List (Int×Int)}(h:cK t=0):Good t:=by
 have c:∀i,i<t.length->¬nO t i:=λi b c=>by rw[JR b c]at h;exact absurd h G
 refine⟨JE (λi b=>?_),λe he=>?_⟩
 ·have:=c (i+1) b
  unfold nO at this;have d:¬(0<i+1/\(t.getD (i+1) (0,0)).1<=(t.getD (i+1-1) (0,0)).1):=λa=>this (.inr (.inr (.inl a)))
  rw[show i+1-1=i by omega]at d;omega
 obtain⟨i,b,rfl⟩:=qn he;have:=c i b;unfold nO at this;rw[getD_at b]at this;refine⟨?_,?_,?_,?_⟩
 ·exact Classical.byContradiction λa=>this (.inl Y)
 ·exact Classical.byContradiction λa=>this (.inr (.inl Y))
 ·exact Classical.byContradiction λa=>this (.inr (.inr (.inr (.inl a))))
 exact Classical.byContradiction λa=>this (.inr (.inr (.inr (.inr a))))
theorem pA{t:List (Int×Int)}(h:Good t):cK t=0:=by
 refine Lc (λi b a=>?_);have c:=h.2 t[i] (ql b);unfold nO at a;rw[getD_at b]at a
 rcases a with a|a|a|a|a
 ·omega
 ·omega
 ·have d:=(ob.1 h.1) (i-1) i Y b Y
  rw[getD_at Y]at a;omega
 ·exact a c.2.2.1
 exact a c.2.2.2
theorem ED(t:List (Int×Int))(d x:Int):ofF (cY t d) x=if gW (512+d) x=true then hF else ofF t x:=by
 induction t with
 |nil=>simp[cY,ofF]
 |cons e t c=>
  unfold cY at c⊢;rw[List.filter_cons]
  by_cases b:gW (512+d) e.1=true
  ·rw[if_neg (by simp[b]),c,kq]
   by_cases a:e.1=x
   ·rw[<-a,if_pos b,if_pos b]
   rw[if_neg a]
  rw[if_pos (by simp[b]),kq,kq,c]
  by_cases a:e.1=x
  ·rw[<-a,if_pos rfl,if_neg b,if_pos rfl]
  rw[if_neg a,if_neg a]
theorem r7{z:Int×Int}:∀{t:List (Int×Int)},(∀e∈t,e.1≠z.1)->∀x,ofF (dz z t) x=if x=z.1 then T z.2 else ofF t x
 |[],_,x=>by
  unfold dz;rw[kq]
  by_cases h:x=z.1
  ·rw[if_pos h.symm,if_pos h]
  rw[if_neg (λb=>h b.symm),if_neg h]
 |e::t,h,x=>by
  unfold dz
  split
  ·rw[kq]
   by_cases a:x=z.1
   ·rw[if_pos a.symm,if_pos a]
   rw[if_neg (λb=>a b.symm),if_neg a]
  rw[kq,kq,r7 (λe he=>h e (jy _ he))];have b:=h e (js ..)
  by_cases a:e.1=x
  ·rw[if_pos a,if_pos a,if_neg (by rw[<-a];exact b)]
  rw[if_neg a,if_neg a]
theorem ox{t:List (Int×Int)}(h:Str t)(d:Int):Str (cY t d):=List.Pairwise.filter _ h
theorem sH{z:Int×Int}:∀{t:List (Int×Int)},Str t->(∀e∈t,e.1≠z.1)->Str (dz z t)
 |[],_,_=>by unfold dz Str;simp
 |e::t,c,h=>by
  have b:=n0.1 c;have f:=h e (js ..);unfold dz
  split
  ·rename_i d
   refine n0.2 ⟨λy a=>?_,c⟩
   rcases jm.1 a with rfl|a
   ·exact d
   have:=b.1 y a;omega
  refine n0.2 ⟨λy a=>?_,sH b.2 (λe he=>h e (jy _ he))⟩
  rcases nB a with rfl|a
  ·omega
  exact b.1 y a
theorem DW{t:List (Int×Int)}{d:Int}{e:Int×Int}(h:e∈cY t d):e∈t/\¬Und (512+d) e.1:=by
 unfold cY at h;obtain⟨b,a⟩:=jW.1 h;refine⟨b,λc=>?_⟩;rw[rt c]at a
 cases a
theorem oz{t:List (Int×Int)}{d x:Int}(a:Und (512+d) x):∀e∈cY t d,e.1≠x:=λe he h=>(DW he).2 (by rw[h];exact a)
theorem Fl{f:Int->Option Int}{xs:List Int}(h:xs.Nodup):Str (cO f (xs.mergeSort leI)):=by
 have c:(xs.mergeSort leI).Pairwise (·<·):=by
  have a:=tJ xs;have b:(xs.mergeSort leI).Nodup:=(jO xs leI).nodup_iff.2 h;exact(a.and b).imp λh=>by have:=h.1;have:=h.2;omega
 unfold Str cO;rw[nn];exact c
theorem LR{f:Int->Option Int}(a:List Int)(x:Int):ofF (cO f a) x=if x∈a then T ((f x).getD 0)else hF:=by
 induction a with
 |nil=>rfl
 |cons y a b=>
  show ofF ((y,(f y).getD 0)::cO f a) x=_;rw[kq,b]
  by_cases h:y=x
  ·subst h;simp
  have:¬x=y:=λc=>h c.symm
  simp[h,this]
theorem MG{f:Int->Option Int}{xs:List Int}(h:KeysOf f xs)(x:Int)(b:I64 x):ofF (cO f (xs.mergeSort leI)) x=f x:=by
 rw[LR]
 by_cases a:x∈xs
 ·rw[if_pos ((rY xs x).2 a)]
  obtain⟨v,c⟩:=qi.1 (h.2.1 x a).2;rw[c];rfl
 rw[if_neg (λc=>a ((rY xs x).1 c))]
 cases hf:f x with
 |none=>rfl
 |some v=>exact absurd (h.2.2 x b (by rw[hf];rfl)) a
theorem ni{w:hU}{v:hZ}{t:List (Int×Int)}(h:aT w v t):Wf t:=by obtain⟨p,c,-,-,-,-,h⟩:=h;exact h
theorem wH{f:Int->Option Int}{xs:List Int}(h:KeysOf f xs)(b:Wf (cO f (xs.mergeSort leI))){t:List (Int×Int)}(c:Str t)(d:Wf t)(e:∀x,I64 x->f x=ofF t x):cO f (xs.mergeSort leI)=t:=
 JN (Fl h.1) c b d (λx a=>by rw[MG h x a,e x a])
theorem uh{t:List (Int×Int)}{d:Int}(a:0<=d)(b:d<512)(x:Int):ft (ofF t) ((512+d)::aR d) x=ofF (cY t d) x:=by
 rw[ED];unfold ft
 by_cases h:x∈(512+d)::aR d
 ·rw[if_pos h,if_pos (rt ((mR d a b x).1 h))]
 rw[if_neg h,if_neg (λc=>h ((mR d a b x).2 ((BW _ _).1 c)))]
theorem Gp{t:List (Int×Int)}{d x:Int}(a:0<=d)(b:d<512)(y:Int):gr t d x y=ofF (dz (512+d,x) (cY t d)) y:=by
 rw[r7 (oz (nU Y))];unfold gr
 by_cases h:y=512+d
 ·rw[if_pos h,if_pos h]
 rw[if_neg h,if_neg h];exact uh a b y
theorem wy{t:List (Int×Int)}{d:Int}{m:Bool}(h:cQ t d m=0):cK t=0/\0<=d/\d<512:=by
 have a:=uI h;refine⟨?_,a.1,a.2⟩;unfold cQ at h
 split at h
 ·assumption
 exact h
theorem tB{d:Int}(i:0<=d)(p:d<512){k:Nat}(hk:k<=9):1<=(512+d)/2^k/\∀j,j<k->(512+d)/2^k<(512+d)/2^j:=by
 obtain⟨n,rfl⟩:=qo i;have h:∀n:Fin 512,∀k:Fin 10,1<=(512+n.val)/2^k.val:=by decide+kernel
 have c:∀j:Nat,(512+(n:Int))/2^j=(((512+n)/2^j:Nat):Int):=λj=>by
  rw[qS];push_cast;rfl
 have g:∀k,k<=9->1<=(512+n)/2^k:=λk hk=>h ⟨n,by omega⟩ ⟨k,by omega⟩
 have l:∀k,(512+n)/2^(k+1)=(512+n)/2^k/2:=λk=>by rw[Nat.pow_succ,Nat.div_div_eq_div_mul]
 have m:∀k,k<=9->∀j,j<k->(512+n)/2^k<(512+n)/2^j:=by
  intro k
  induction k with
  |zero=>intro _ j e;omega
  |succ k o=>
   intro hk j e;have a:=g k Y;have b:=l k
   rcases qP (qQ e)with f|f
   ·have:=o Y j f;omega
   rw[f];omega
 refine⟨by rw[c];have:=g k hk;omega,λj e=>by rw[c,c];have:=m k hk j e;omega⟩
theorem M4{d:Int}(a:0<=d)(b:d<512){k:Nat}(hk:k<=9):Und (512+d) ((512+d)/2^k):=⟨(tB a b hk).1,k,rfl⟩
theorem FM{d x:Int}(b:0<=d)(c:d<512)(h:Und (512+d) x):∃k,k<=9/\x=(512+d)/2^k:=by
 obtain⟨e,j,a⟩:=h;refine⟨j,?_,a.symm⟩
 rcases j8 9 j with h|h
 ·have f:(512+d)/2^j=0:=by
   have g:(1024:Int)<=2^j:=by
    have:=oi (n:=2) G (show 10<=j from h)
    exact_mod_cast this
   exact Int.ediv_eq_zero_of_lt Y Y
  omega
 exact h
theorem Hi{d:Int}(a:0<=d)(c:d<512){k:Nat}(hk:k<9):(aR d).getD k 0=(512+d)/2^(k+1):=by
 obtain⟨n,rfl⟩:=qo a;have h:∀n:Fin 512,∀k:Fin 9,(gG n.val).getD k.val 0=(512+n.val)/2^(k.val+1):=by decide+kernel
 have b:=h ⟨n,by omega⟩ ⟨k,hk⟩;have f:=rc (n:Int) a c;have e:aR (n:Int)=(gG n).map λm:Nat=>(m:Int):=by simp[aR]
 have g:k<(gG n).length:=by rw[e,jc]at f;omega
 rw[e];simp only[jC,ju,jD g,qs,qO]at b⊢;rw[b,qS];push_cast;rfl
theorem CN{t:List (Int×Int)}{d:Int}{l:List Int}:∀{k:Nat} {e:Int×Int},e∈io t d l k->e∈cY t d\/∃j,j<k/\e=((512+d)/2^j,l.getD j 0)
 |0,e,h=>.inl h
 |k+1,e,h=>by
  unfold io at h
  rcases nB h with rfl|h
  ·exact .inr ⟨k,Nat.lt_succ_self _,rfl⟩
  rcases CN h with h|⟨j,a,h⟩
  ·exact .inl h
  exact .inr ⟨j,Nat.lt_succ_of_lt a,h⟩
theorem AR{t:List (Int×Int)}{d:Int}{l:List Int}(a:0<=d)(b:d<512){k:Nat}(hk:k<=9):∀e∈io t d l k,e.1≠(512+d)/2^k:=by
 intro e he
 rcases CN he with h|⟨j,c,rfl⟩
 ·exact oz (M4 a b hk) e h
 have:=(tB a b hk).2 j c;show(512+d)/2^j≠_;omega
theorem Ef{t:List (Int×Int)}{d:Int}{l:List Int}(a:Str t)(b:0<=d)(c:d<512):∀{k:Nat},k<=10->Str (io t d l k)
 |0,_=>ox a d
 |k+1,hk=>sH (Ef a b c Y) (AR b c Y)
theorem yY{t:List (Int×Int)}{d:Int}{l:List Int}(a:0<=d)(b:d<512){k:Nat}(hk:k<=9)(x:Int):ofF (io t d l (k+1)) x=if x=(512+d)/2^k then T (l.getD k 0)else ofF (io t d l k) x:=
 r7 (AR a b hk) x
theorem EF{t:List (Int×Int)}{d:Int}{l:List Int}(a:0<=d)(b:d<512)(x:Int):∀k,k<=9->dN t d l k x=ofF (io t d l (k+1)) x
 |0,hk=>by
  rw[yY a b hk];unfold dN;simp only[Int.pow_zero,Int.ediv_one]
  by_cases h:x=512+d
  ·rw[if_pos h,if_pos h]
  rw[if_neg h,if_neg h];exact uh a b x
 |k+1,hk=>by
  rw[yY a b hk];unfold dN;rw[Hi a b Y,EF a b x k Y]
theorem NF(t:List (Int×Int))(v:hZ)(d x:Int)(w:hU)(b:aT w v t)(q:t.length<=800000)(i:I64 d)(c:I64 x):
 ja ih 96 #[ii #[v],I N d,I N x] w λe w'=>∃a,e=jb (jl #[ii #[a],I N (eQ t d x)])/\aT w' a (ia t d x)/\ic w w w':=by
 refine(Oo t v d x w b Y i c).mono ?_;rintro e w' ⟨f,j,k⟩
 by_cases h:eQ t d x=0
 ·obtain⟨a,xs,rfl,hk,g⟩:=k h
  have l:cQ t d false=0:=by
   unfold eQ at h
   split at h
   ·assumption
   exact h
  obtain⟨m,n,o⟩:=wy l;have p:=kC m;refine⟨a,by rw[h],?_,f⟩;unfold ia;rw[if_pos h,<-wH hk (ni g) (sH (ox p.1 d) (oz (nU Y))) (λe he=>?_) (λy _=>Gp n o y)]
  ·exact g
  rcases nB he with rfl|he
  ·exact⟨I64.of (by show -9223372036854775808<=512+d/\512+d<=9223372036854775807;omega),c⟩
  exact uJ (ni b) e he
 refine⟨_,j h,?_,f⟩;unfold ia;rw[if_neg h];exact sK _
theorem Ld(t:List (Int×Int))(v:hZ)(d:Int)(w:hU)(b:aT w v t)(o:t.length<=800000)(g:I64 d):
 ja ih 95 #[ii #[v],I N d] w λe w'=>∃a,e=jb (jl #[ii #[a],I N (cQ t d true)])/\aT w' a (lW t d)/\ic w w w':=by
 refine(FR t v d w b Y g).mono ?_;rintro e w' ⟨c,i,j⟩
 by_cases h:cQ t d true=0
 ·obtain⟨a,xs,rfl,hk,f⟩:=j h
  obtain⟨k,l,m⟩:=wy h;have n:=kC k;refine⟨a,by rw[h],?_,c⟩;unfold lW;rw[if_pos h,<-wH hk (ni f) (ox n.1 d) (uJ (ni b)) (λy _=>uh l m y)];exact f
 refine⟨_,i h,?_,c⟩;unfold lW;rw[if_neg h];exact sK _
theorem Ku(t:List (Int×Int))(v:hZ)(d:Int)(l:List Int)(a:hZ)(w:hU)(f:aT w v t)(z:t.length<=800000)(k:I64 d)(m:cC w a l)(n:l.length<=1000000)(g:∀j,I64 (l.getD j 0)):
 ja ih 56 #[ii #[v],I N d,a] w λe w'=>∃x,e=jb (jl #[ii #[x],I N (ef t d l)])/\(aT w' x (kE t d l)/\Fr w.heap.size x)/\ic w w w':=by
 refine(FJ t v d l a w f Y k m n g).mono ?_;rintro e w' ⟨i,o,p⟩
 by_cases h:ef t d l=0
 ·obtain⟨a,xs,rfl,hk,j,q⟩:=p h
  have r:cQ t d true=0:=by
   unfold ef at h
   split at h
   ·assumption
   exact h
  obtain⟨s,b,c⟩:=wy r;have u:=kC s;refine⟨a,by rw[h],⟨?_,q⟩,i⟩;unfold kE;rw[if_pos h,<-wH hk (ni j) (Ef u.1 b c (je 10)) (AB (ni f) g b c 10) (λy _=>EF b c y 9 Y)];exact j
 refine⟨_,o h,⟨?_,Fr.nil _⟩,i⟩;unfold kE;rw[if_neg h];exact sK _
structure cG(g:Grp):Prop where
 fol:gy g.folder
 ep:0<=g.epoch/\g.epoch<=1099511627776
 tree:cK g.tree=0
 zero:g.epoch=0->g.mem=[]/\g.last=jR 32 0#8
 dev:g.mem.map Mem.dev=aU g.tree
 ok:∀m∈g.mem,1<=m.since/\m.since<=g.epoch/\aN m.ver
def pG(x:Chg):Prop:=eF x.d/\((x.k=1/\aN x.p/\aN x.v/\x.c=0)\/(x.k=2/\x.p=0/\x.v=0/\0<=x.c/\x.c<=1048576)\/(x.k=3/\aN x.p/\aN x.v/\0<=x.c/\x.c<=1048576))
structure dD(l:List Chg):Prop where
 each:∀x∈l,pG x
 once:(l.map Chg.d).Nodup
 len:l.length<=64
structure eS(g:Grp)(a:Int)(l:List Chg):Prop where
 own:cE g.mem a=decide (0<g.epoch)
 first:g.epoch=0->∃x r,l=x::r/\x.d=a
 each:∀x∈l,cE g.mem x.d=decide (x.k≠1)/\(cE g.mem a=true->x.d≠a)
noncomputable def eC(t:List (Int×Int))(x:Chg):List (Int×Int):=if x.k=2 then lW t x.d else ia t x.d x.p
noncomputable def aJ(t:List (Int×Int))(l:List Chg):List (Int×Int):=l.foldl eC t
theorem Mr(t:List (Int×Int))(l:List Chg)(x:Chg):aJ t (l++[x])=eC (aJ t l) x:=by unfold aJ;rw[List.foldl_append];rfl
theorem JW(t:List (Int×Int))(x:Chg):(eC t x).length<=t.length+1:=by
 have a:∀d,(cY t d).length<=t.length:=λd=>qt _ _
 unfold eC
 split
 ·unfold lW
  split
  ·have:=a x.d;omega
  simp
 unfold ia
 split
 ·have:=DN (512+x.d,x.p) (cY t x.d);have:=a x.d;omega
 simp
theorem tp(t:List (Int×Int)):∀l:List Chg,(aJ t l).length<=t.length+l.length:=by
 intro l
 induction l generalizing t with
 |nil=>simp[aJ]
 |cons x l a=>
  have b:=a (eC t x);have c:=JW t x;show(aJ (eC t x) l).length<=_;simp only[jn];omega
def kI(a:Int)(x:Chg):Bool:=decide (x.k=2)||decide (x.d=a)
def eV(l:List Chg):List Chg:=l.mergeSort λx y=>decide (x.d<=y.d)
def di(a:Int)(l:List Chg):List Chg:=eV (l.filter λx=> !kI a x)
def gu(a:Int):List Int:=(lI a.toNat).map λn:Nat=>(n:Int)
noncomputable def eu(t:List (Int×Int))(l:List Int)(k:Nat):List (Int×Int):=(l.zipIdx k).flatMap λx=>(dQ t x.1).map λn=>((x.2:Int),n)
noncomputable def dF(t:List (Int×Int))(a:Int):List (Int×Int):=eu t (gu a) 1
def dp(g:Grp)(a:Int)(l:List Chg):Int:=match g.mem.find? (λm=>m.dev==a)with
 |some m=>m.ver
 |none=>match l with|x::_=>x.v|[]=>0
structure eG(c:Cmt):Prop where
 fol:gy c.folder
 ep:1<=c.epoch/\c.epoch<=1099511627776
 aut:eF c.author
 chg:dD c.chg
 plen:c.path.length=10
 blen:c.box.length<=1024
 wlen:c.wel.length<=512
 path:∀p∈c.path,aN p
 box:∀b∈c.box,1<=b.node/\b.node<1024/\1<=b.lev/\b.lev<=9/\kD b.u b.body.length
 wel:∀x∈c.wel,eF x.dev/\kD x.u x.body.length
 inc:∀i,0<i->i<c.wel.length->((c.wel.map Wl.dev).getD (i-1) 0)<((c.wel.map Wl.dev).getD i 0)
noncomputable def en(c:Cmt):Int:=by classical exact if eG c then 0 else 220
theorem oD{c:Cmt}(h:eG c):en c=0:=by unfold en;rw[if_pos h]
theorem dM{c:Cmt}(h:¬eG c):en c=220:=by unfold en;rw[if_neg h]
noncomputable def ci(g:Grp)(a:Int)(l:List Chg):Int:=by classical exact if cG g then(if dD l/\eS g a l then 0 else 221)else 1
noncomputable def dc(g:Grp)(a:Int)(l:List Chg):List (Int×Int):=if ci g a l=0 then dF (aJ g.tree l) a else []
theorem lY{g:Grp}{a:Int}{l:List Chg}:ci g a l=0↔cG g/\dD l/\eS g a l:=by
 unfold ci
 by_cases h:cG g
 ·rw[if_pos h]
  by_cases b:dD l/\eS g a l
  ·rw[if_pos b];exact⟨λ_=>⟨h,b⟩,λ_=>rfl⟩
  rw[if_neg b];exact⟨λe=>absurd e G,λe=>absurd e.2 b⟩
 rw[if_neg h];exact⟨λe=>absurd e G,λe=>absurd e.1 h⟩
def aB(g:Grp)(vm vt:hZ):List hZ:=I N g.folder::I N g.epoch::(g.last.map v8++[vm,vt])
structure cS(w:hU)(g:Grp)(vm vt:hZ):Prop where
 mem:EM.At w vm g.mem
 tree:aT w vt g.tree
 llen:g.last.length=32
theorem cS.below{w w':hU}{g:Grp}{vm vt:hZ}(h:cS w g vm vt)(a:ic w w w'):cS w' g vm vt:=⟨h.mem.below a,h.tree.below a,h.llen⟩
theorem wV{g:Grp}{vm vt:hZ}(h:g.last.length=32):(aB g vm vt).length=36:=by unfold aB;simp[h]
structure de(w:hU)(b:Nat)(g:Grp)(vm vt:hZ):Prop where
 blk:w.heap[b]?=T (hK (aB g vm vt).toArray 54 (0,0))
 llen:g.last.length=32
theorem de.new(w:hU){g:Grp}{vm vt:hZ}(h:g.last.length=32):de (w.alloc (hK (aB g vm vt).toArray 54)) w.heap.size g vm vt:=⟨jg w _,h⟩
theorem de.lt{w:hU}{b:Nat}{g:Grp}{vm vt:hZ}(h:de w b g vm vt):b<w.heap.size:=(jq.1 h.blk).1
theorem de.keep{w w':hU}{b:Nat}{g:Grp}{vm vt:hZ}(h:de w b g vm vt)(hk:w'.heap[b]?=w.heap[b]?):de w' b g vm vt:=⟨hk.trans h.blk,h.llen⟩
theorem de.below{w w':hU}{b:Nat}{g:Grp}{vm vt:hZ}(h:de w b g vm vt)(a:ic w w w'):de w' b g vm vt:=h.keep (a.block b h.lt)
theorem de.get{w:hU}{b:Nat}{g:Grp}{vm vt:hZ}(h:de w b g vm vt){i:Nat}{v:hZ}(a:(aB g vm vt)[i]?=T v):w.cell? ⟨b,i,hF⟩=T v:=
 cell_of h.blk (by simpa using a)
theorem lx{g:Grp}{vm vt:hZ}(h:g.last.length=32):(aB g vm vt)[0]?=T (I N g.folder)/\(aB g vm vt)[1]?=T (I N g.epoch)/\(aB g vm vt)[34]?=T vm/\(aB g vm vt)[35]?=T vt:=by
 have a:(g.last.map v8).length=32:=by rw[jc];exact h
 unfold aB;refine⟨rfl,rfl,?_,?_⟩
 ·show(g.last.map v8++[vm,vt])[32]?=_
  rw[qu Y,a];rfl
 show(g.last.map v8++[vm,vt])[33]?=_;rw[qu Y,a];rfl
theorem de.at{w:hU}{b:Nat}{g:Grp}{vm vt:hZ}(h:de w b g vm vt):w.cell? ⟨b,0,hF⟩=T (I N g.folder)/\w.cell? ⟨b,1,hF⟩=T (I N g.epoch)/\w.cell? ⟨b,34,hF⟩=T vm/\w.cell? ⟨b,35,hF⟩=T vt:=
 have e:=lx (vm:=vm) (vt:=vt) h.llen
 ⟨h.get e.1,h.get e.2.1,h.get e.2.2.1,h.get e.2.2.2⟩
theorem de.last{w:hU}{b:Nat}{g:Grp}{vm vt:hZ}(h:de w b g vm vt):w.rangeAt b 2 (g.last.map v8):=by
 intro j v a;have c:=(jY.1 a).1;refine h.get ?_;unfold aB;rw[show 2+j=j+1+1 by omega,qT,qT,oj c];exact a
theorem EK.At.mems{w:hU}{v:hZ}{l:List Mem}(h:EM.At w v l):lX w v l:=by
 obtain⟨a,p,c,b,d,f,i⟩:=h;refine⟨a,p,c,b,d,f,λj=>?_⟩;obtain⟨g,o,e,k⟩:=i j;exact⟨g,o,e,trivial,k⟩
theorem mC{g:Grp}{vm vt:hZ}(h:g.last.length=32):(ih.info? 54).map (·.size)=T (aB g vm vt).toArray.size:=by
 rw[jr,wV h];kernel_rfl
theorem uj(g:Grp)(vm vt:hZ)(d:Int)(w:hU)(a:EM.At w vm g.mem)(i:kt g.mem)(q:g.mem.length<=1000000)(r:g.last.length=32):
 ja ih 93 #[ii (aB g vm vt).toArray,I N d] w λe w'=>e=jb (jl #[I N (iV g.mem d:Nat),.bool (cE g.mem d)])/\ic w w w':=by
 have j:=de.new w (vm:=vm) (vt:=vt) r;have b:=af w (hK (aB g vm vt).toArray 54);have f:=O (NJ g.mem i vm d _ (a.mems.below b) q);have h:=O b;obtain⟨k,l,m,n⟩:=j.at;obtain⟨p,c,rfl,-,-⟩:=a.form;obtain⟨s,o⟩:=J ((aB g (hH p g.mem.length c) vt).toArray);rw[<-o]at k l m n f h⊢;clear j b a i o
 go_enter func93,ntmps93
 go_wp2_with fail
 refine(f).mono ?_;rintro e i ⟨rfl,a⟩;have b:=ac h a;clear a f k l m n h
 go_wp2_with fail
 go_ret2;exact⟨rfl,b⟩
noncomputable def fc(ep:Int)(m:Mem):Bool:=decide (m.since<1)||decide (ep<m.since)||decide (bL m.ver≠0)
theorem Kq(g:Grp)(vm vt:hZ)(b:Nat)(m:Mem)(w:hU)(l:de w b g vm vt):
 ja ih 116 #[ii m.cells.toArray,jd (T ⟨b,0,hF⟩)] w λe w'=>e=jb (.bool (fc g.epoch m))/\ic w w w':=by
 obtain⟨md,a,f⟩:=m;obtain⟨r,c⟩:=J (fc g.epoch ⟨md,a,f⟩);rw[<-c];have i:=O c;unfold Mem.cells;have d:=af w (hK #[I N md,I N a,I N f] 68);obtain⟨-,n,-,-⟩:=(l.below d).at;have h:=O d;have j:=O (fk f);obtain⟨p,k⟩:=J (bL f);rw[<-k]at j;have q:=O k;obtain⟨ep,he⟩:=J g.epoch;rw[<-he]at n;have o:=O he;clear c d l k he
 by_cases c:a<1
 ·have k:decide (a<1)=true:=by simpa using c
  obtain rfl:r=true:=by rw[i];unfold fc;simp[c]
  go_enter func116,ntmps116
  go_wp2_with fail
  go_ret;exact⟨rfl,h⟩
 have k:decide (a<1)=false:=by simpa using c
 by_cases d:ep<a
 ·have l:decide (ep<a)=true:=by simpa using d
  obtain rfl:r=true:=by rw[i];unfold fc;rw[<-o];simp[d]
  go_enter func116,ntmps116
  go_wp2_with fail
  go_ret;exact⟨rfl,h⟩
 have l:decide (ep<a)=false:=by simpa using d
 have s:hQ (r=decide (p≠0)):=O (by rw[i];unfold fc;rw[<-o,<-q];simp[c,d]);clear c d
 go_enter func116,ntmps116
 go_wp2_with fail
 refine(j _).mono ?_;rintro e t ⟨rfl,c⟩;have d:=ac h c;clear c j h n
 go_wp2_with fail
 go_ret;exact⟨iD (by rw[s];exact NW _ _),d⟩
theorem G0(m:Mem)(d:Int)(w:hU):
 ja ih 117 #[ii m.cells.toArray,I N d] w λe w'=>e=jb (.bool (m.dev==d))/\ic w w w':=by
 obtain⟨md,a,b⟩:=m;unfold Mem.cells;have c:=O (af w (hK #[I N md,I N a,I N b] 68))
 go_enter func117,ntmps117
 go_wp2_with fail
 go_ret;exact⟨rfl,c⟩
theorem zK(g:Grp)(vm vt:hZ)(b a:Nat)(c:b<a):fz EM 116 #[jd (T ⟨b,0,hF⟩)] a (λW=>de W b g vm vt) (fc g.epoch) where
 enter _ _:=rfl
 keep w w' hn h hB:=h.keep (hB.block b c)
 call x w hn h:=Kq g vm vt b x w h
theorem Il(a:Int)(b:Nat)(x:Chg)(w:hU)(k:jj w b 3 (I N a)):
 ja ih 108 #[ii x.cells.toArray,jd (T ⟨b,0,hF⟩)] w λe w'=>e=jb (.bool (kI a x))/\ic w w w':=by
 obtain⟨c,f,g,h,i⟩:=x;obtain⟨r,d⟩:=J (kI a ⟨c,f,g,h,i⟩);rw[<-d];have l:=O d;unfold Chg.cells;have j:=af w (hK #[I N c,I N f,I N g,I N h,I N i] 59);have n:(w.alloc (hK #[I N c,I N f,I N g,I N h,I N i] 59)).cell? ⟨b,0,hF⟩=T (I N a):=cell_below k.cell j;have m:=O j;clear d j k
 by_cases d:c=2
 ·subst d
  obtain rfl:r=true:=by rw[l];unfold kI;simp
  go_enter func108,ntmps108
  go_wp2_with fail
  go_ret;exact⟨rfl,m⟩
 have k:(c==2)=false:=by simpa using d
 have o:decide (c=2)=false:=by simpa using d
 have j:hQ (r=(f==a)):=O (by rw[l];unfold kI;simp[d];rfl);clear d
 go_enter func108,ntmps108
 go_wp2_with fail
 go_ret;exact⟨iD j.symm,m⟩
theorem NC(a:Int)(b c:Nat)(d:b<c):fz EC 108 #[jd (T ⟨b,0,hF⟩)] c (λW=>jj W b 3 (I N a)) (kI a) where
 enter _ _:=rfl
 keep w w' hn h hB:=(hB.block b d).trans h
 call x w hn h:=Il a b x w h
theorem rZ{P:kn}{b:Array Oper}{c:Exit->Act->hU->Prop}{a:Act}{w:hU}{d:List Oper}{o:Oper}(e:Region.wanted o (yielded b a.tmps)=true)
 (h:∀K:Act->hU->Prop,(∀a w,wpList P b c d a w->K a w)->o.wp P a w K c):wpList P b c (o::d) a w:=
 wpList_step λK f=>by rw[if_pos e];exact h K f
theorem IV(n m:Int):(n==m)=decide (n=m):=by by_cases h:n=m<;>simp[h]
theorem Ot{l:List Mem}{r:List Int}(c:l.length=r.length)(h:∀t,t<l.length->(l.getD t bR).dev=r.getD t 0):l.map Mem.dev=r:=by
 refine List.ext_getElem (by rw[jc];exact c) λi a d=>?_
 have b:i<l.length:=by rw[jc]at a;exact a
 have:=h i b;rw[eh _ b,eh _ d]at this;rw[ol];exact this
theorem Mk{l:List Mem}{r:List Int}{k:Nat}(hk:k<l.length)(h:(l.getD k bR).dev≠r.getD k 0):¬l.map Mem.dev=r:=λe=>by
 apply h
 rw[<-e,eh _ hk,eh _ (by rw[jc];exact hk),ol]
theorem tf(l:List Mem)(r:List Int)(v M:hZ)(w:hU)(h:EM.At w v l)(hu:cC w M r)(hl:l.length<=1000000)(hr:r.length<=1000000):
 ja ih 118 #[v,M,.func (.func 117) #[] #[]] w λe w'=>e=jb (.bool (decide (l.map Mem.dev=r)))/\ic w w w':=by
 obtain⟨C,a⟩:=J (decide (l.map Mem.dev=r));rw[<-a];have D:=O a;obtain⟨p,c,rfl,hc,-⟩:=h.form;obtain⟨q,d,rfl,hd,g⟩:=hu;have P:=O h;have HV:=O g;obtain⟨n,b⟩:=J l.length;obtain⟨m,f⟩:=J r.length;have s:=O b;have z:=O f;rw[<-b]at hl hc P⊢;rw[<-f]at hr hd⊢;have EG:∀args w,(callFunc 117 args).run ih w=.ok (.enter 117 args) w:=λ_ _=>rfl
 clear h g b f a
 by_cases f:n=m
 ·have aa:((n:Int)!=(m:Int))=false:=by simp[f]
  have ad:((n:Int)==(m:Int))=true:=by simp[f]
  have B:=O f;clear f
  go_enter func118,ntmps118
  go_wp2_with fail
  go_loopw [17] (λi wr=>∃k:Nat,i=I N k/\k<=n/\hQ (∀t,t<k->(l.getD t bR).dev=r.getD t 0)/\hQ (ic w w wr)) (λi _=>n-(ji i).toNat)
  case atStart=>exact⟨0,rfl,jI _,O (λt Q=>absurd Q Y),O (jt _ _)⟩
  obtain⟨k,rfl,hk,R,b⟩:=hrel
  by_cases E:k<n
  ·have al:=ap ((k:Int)<(n:Int))
   have au:=ap (k<n);have VZ:k<m:=aw B;have a1:=ap ((k:Int)<(m:Int));have a2:=ap (k<m);obtain⟨e,he,-⟩:=dS (l:=l) (j:=k) (by rw[<-s];exact E);obtain⟨g,o,rfl,h⟩:=(P.cells).2.2 Y;obtain⟨S,U,rfl,V⟩:=HV.out (by rw[<-z,<-B];omega);have x:=V k (by rw[<-z,<-B];exact E);have X:l.getD k bR=e:=by simp[jC,he]
   have HE:=O X;obtain⟨y,F⟩:=J (r.getD k 0);rw[<-F]at x;have HY:=O F;obtain⟨a,i,u⟩:=e;have c0:wr.cell? ⟨g,o+k*3,hF⟩=T (I N a):=cell_below (h k _ he 0 _ rfl) b;have c1:wr.cell? ⟨g,o+k*3+1,hF⟩=T (I N i):=cell_below (h k _ he 1 _ rfl) b;have c2:wr.cell? ⟨g,o+k*3+2,hF⟩=T (I N u):=cell_below (h k _ he 2 _ rfl) b;have H:=af wr (hK #[I N a,I N i,I N u] 68);have c3:wr.cell? ⟨S,U+k,hF⟩=T (I N y):=cell_below x b;have c4:(wr.alloc (hK #[I N a,I N i,I N u] 68)).cell? ⟨S,U+k,hF⟩=T (I N y):=cell_below c3 H;have HC:hQ (∀W,ja ih 117 #[ii #[I N a,I N i,I N u],I N y] W λe w'=>e=jb (.bool (a==y))/\ic W W w'):=O (G0 ⟨a,i,u⟩ y);have K:=O H;clear h V x X F he H
   go_wp2_with fail
   refine(HC _).mono ?_;rintro x W ⟨rfl,h⟩;have F:=O (b.trans ((K.trans (h.mono K.size)).mono b.size));clear h HC c0 c1 c2 c3 c4 K
   by_cases h:a=y
   ·have K:(a==y)=true:=by simpa using h
    have V:hQ (∀t,t<k+1->(l.getD t bR).dev=r.getD t 0):=O (λt Q=>by
     rcases j8 t k with H|H
     ·exact R t H
     obtain rfl:t=k:=Y;rw[HE,<-HY];exact h)
    clear h
    go_wp2_with fail
    exact⟨⟨k+1,by go_num,by omega,V,F⟩,by simp only[ji];omega⟩
   have K:(a==y)=false:=by simpa using h
   obtain rfl:C=false:=by
    rw[D,decide_eq_false_iff_not];exact Mk (by rw[<-s];exact E) (by rw[HE,<-HY];exact h)
   clear h
   go_wp2_with fail
   go_ret;exact⟨rfl,F⟩
  have al:=ar ((k:Int)<(n:Int));have au:=ar (k<n);obtain rfl:k=n:=Y;obtain rfl:C=true:=by
   rw[D,decide_eq_true_iff];exact Ot (by rw[<-s,<-z];exact B) (by rw[<-s];exact R)
  go_wp2_with fail
  go_ret;exact⟨rfl,b⟩
 have aa:((n:Int)!=(m:Int))=true:=by simp;omega
 have ad:((n:Int)==(m:Int))=false:=by simp;omega
 obtain rfl:C=false:=by
  rw[D,decide_eq_false_iff_not];intro e;have:=congrArg qv e;rw[jc,<-s,<-z]at this;exact f this
 clear f
 go_enter func118,ntmps118
 go_wp2_with fail
 go_ret;exact⟨rfl,jt _ _⟩
theorem tH(a b:LBy)(f:a.length=32)(g:b.length=32)(z:hU):
 (Op.equalIn 10000 23 (ii (a.map v8).toArray) (ii (b.map v8).toArray)).run ih z=.ok (decide (a=b)) z:=by
 have h:=wY (P:=ih) (t:=23) (e:=5) (n:=32) (k:=.u8) underlying23 qJ ae ae ae (a.map λb=>(b.toNat:Int)) (b.map λb=>(b.toNat:Int)) (by rw[jc];exact f) (by rw[jc];exact g)
  (by
   intro c d;obtain⟨y,-,rfl⟩:=jf.1 d;have:=y.isLt;exact WalkArith.wf_u8 Y) (by
    intro c d;obtain⟨y,-,rfl⟩:=jf.1 d;have:=y.isLt;exact WalkArith.wf_u8 Y) z
 have e:∀l:LBy,(l.map λb=>(b.toNat:Int)).map (jH .u8)=l.map v8:=λl=>by rw[jQ];rfl
 rw[e,e]at h;rw[h]
 congr 1
 have c:(a.map λb=>(b.toNat:Int))=(b.map λb=>(b.toNat:Int))↔a=b:=by
  refine List.map_inj_right λx y d=>?_
  have:x.toNat=y.toNat:=Int.ofNat.inj d;exact qU this
 simp only[c]
theorem kT{w:hU}{B:Nat}{v:hZ}{l:List Int}(h:w.ownsRow B 3 1 v l.length (l.map (jH .i64))):cC w v l:=by
 obtain⟨m,p,c,b,d,n,f⟩:=bW.of_own h;refine⟨p,c,b,d,λi=>?_⟩;obtain⟨g,o,e,k⟩:=f i;refine⟨g,o,e,λj a=>k j _ ?_⟩;rw[ju,jD a];simp[jC,a]
theorem dt{w w':hU}{v:hZ}{l:List Int}(h:cC w v l)(a:ic w w w'):cC w' v l:=by
 obtain⟨p,c,b,d,f⟩:=h;refine⟨p,c,b,d,λi=>?_⟩;obtain⟨g,o,e,k⟩:=f i;exact⟨g,o,e,λj m=>cell_below (k j m) a⟩
noncomputable def eE(g:Grp):Bool:=by classical exact decide (cG g)
theorem gA{g:Grp}(h:¬cG g):eE g=false:=by unfold eE;simpa using h
theorem A6{g:Grp}(h:cG g):eE g=true:=by unfold eE;simpa using h
theorem Bc{ep:Int}{m:Mem}:fc ep m=false↔1<=m.since/\m.since<=ep/\aN m.ver:=by
 unfold fc;have e:(bL m.ver=0)↔aN m.ver:=⟨λh=>by
  by_cases g:aN m.ver
  ·exact g
  rw[iR g]at h;exact absurd h G,fq⟩
 simp only[Bool.or_eq_false_iff,decide_eq_false_iff_not,Int.not_lt,ne_eq,Classical.not_not,e];exact⟨λh=>⟨h.1.1,h.1.2,h.2⟩,λh=>⟨⟨h.1,h.2.1⟩,h.2.2⟩⟩
theorem zl{g:Grp}(e:gy g.folder)(f:0<=g.epoch/\g.epoch<=1099511627776)(h:cK g.tree=0)(i:g.epoch=0->g.mem=[]/\g.last=jR 32 0#8):
 eE g=(decide (g.mem.map Mem.dev=aU g.tree)&& !(g.mem.any (fc g.epoch))):=by
 by_cases a:cG g
 ·rw[A6 a]
  have b:decide (g.mem.map Mem.dev=aU g.tree)=true:=decide_eq_true a.dev;have c:g.mem.any (fc g.epoch)=false:=by
   rw[oo];intro m d;rw[Bc.2 (a.ok m d)];simp
  rw[b,c];rfl
 rw[gA a]
 by_cases b:g.mem.map Mem.dev=aU g.tree
 ·have c:g.mem.any (fc g.epoch)=true:=by
   cases hx:g.mem.any (fc g.epoch)with
   |true=>rfl
   |false=>
    exfalso
    apply a
    rw[oo]at hx;exact⟨e,f,h,i,b,λm d=>Bc.1 (by simpa using hx m d)⟩
  rw[c];simp
 simp[b]
theorem LB(t:List (Int×Int)):(aU t).length<=512:=by
 have e:=uo t;have c:=λd=>(mq t d).1
 have f:((aU t).map Int.toNat).Nodup:=by
  have g:((aU t).map Int.toNat).Pairwise (·<·):=nn.2 (e.imp_of_mem λ{a b} h i j=>by have:=(c a h).1;have:=(c b i).1;omega);exact g.imp λh=>Nat.ne_of_lt h
 have:=List.Nodup.length_le_of_subset f (l₂:=ms 512) (λx a=>by
  obtain⟨d,b,rfl⟩:=jf.1 a;have g:=c d b;rw[qj];omega)
 simpa using this
theorem yK(g:Grp)(vm vt:hZ)(w:hU)(h:cS w g vm vt)(F:g.mem.length<=1000000)(k:g.tree.length<=1000000):
 ja ih 50 #[ii (aB g vm vt).toArray] w λe w'=>e=jb (.bool (eE g))/\ic w w w':=by
 obtain⟨r,o⟩:=J (eE g);rw[<-o];have M:=O o;obtain⟨fo,p⟩:=J (decide (gy g.folder));have a1:=O p;have c:=de.new w (vm:=vm) (vt:=vt) h.llen;have a:=af w (hK (aB g vm vt).toArray 54);have d:=h.below a;obtain⟨pm,cm,rfl,H,-⟩:=h.mem.form;obtain⟨t,q⟩:=J g.mem.length;rw[<-q]at c a d H⊢;have WU:=O q;obtain⟨ad,f⟩:=J ((aB g (hH pm t cm) vt).toArray);obtain⟨m,P,R,n⟩:=c.at;have i:=c.blk;have s:=lx (g:=g) (vm:=hH pm t cm) (vt:=vt) h.llen;have j:=c.last;have u:hQ (ad[34]?=T (hH pm t cm)):=O (by rw[f];simpa using s.2.2.1);have y:hQ (ad[35]?=T vt):=O (by rw[f];simpa using s.2.2.2);rw[<-f]at m P R n i a d j⊢;obtain⟨b,v⟩:=J w.heap.size;rw[<-v]at m P R n i j;obtain⟨W1,z⟩:=J (w.alloc (hK ad 54));rw[<-z]at m P R n i a d j;have P3:=O z;have RQ:=O v;have Sc:=O f;have K:=O i;have B:=O d;have l:=O a;have QC:=O h.llen;have SI:=O k;have Ty:=O F;have Q:=O j;have au:hQ ((aU g.tree).length<=1000000):=O (jh (LB _) G);obtain⟨ck,C⟩:=J (cK g.tree);have U:hQ (∀W,aT W vt g.tree->ja ih 115 #[ii #[vt]] W λe w'=>e=jb (I N ck)/\ic W W w'):=O (by rw[C];exact λW x=>tE g.tree vt W x k);have a4:=O C;obtain⟨ep,D⟩:=J g.epoch;rw[<-D]at P;have S:=O D;obtain⟨fd,E⟩:=J g.folder;have V:hQ (∀e x,e=g.folder->ja ih 22 #[I N e] x λe w'=>e=jb (.bool fo)/\x=w'):=O (by rw[p];rintro e x rfl;exact Bp _ x);rw[<-E]at m;have ba:=O E;clear h o p c a d H q f i s j v z F k C D E
 go_enter func50,ntmps50
 go_upto_region 1 with fail
 rw[<-P3,<-RQ]
 go_wp2_with fail
 refine(V fd W1 ba).mono ?_;rintro e w1 ⟨rfl,rfl⟩;clear V
 cases fo with
 |false=>
  obtain rfl:r=false:=by rw[M];exact gA λh=>by have x:=a1.out;rw[decide_eq_true h.fol]at x;cases x
  go_wp2_with fail
  go_ret;exact⟨rfl,l⟩
 |true=>
 by_cases a:ep<0
 ·have bb:decide (ep<0)=true:=by simpa using a
  obtain rfl:r=false:=by rw[M];exact gA λh=>by have:=h.ep.1;rw[<-S]at this;omega
  clear a
  go_wp2_with fail
  go_ret;exact⟨rfl,l⟩
 have bb:decide (ep<0)=false:=by simpa using a
 by_cases x:1099511627776<ep
 ·have bc:decide (1099511627776<ep)=true:=by simpa using x
  obtain rfl:r=false:=by rw[M];exact gA λh=>by have:=h.ep.2;rw[<-S]at this;omega
  clear a x
  go_wp2_with fail
  go_ret;exact⟨rfl,l⟩
 have bc:decide (1099511627776<ep)=false:=by simpa using x
 have Zl:=O (show 0<=ep/\ep<=1099511627776 by omega);clear a x
 go_wp2_with fail
 refine(U W1 B.tree).mono ?_;rintro e w1 ⟨rfl,a⟩;have f:=Z K a;have i:=O (B.below a);have k:=ac l a;have bd:hQ (w1.rangeAt b 2 (g.last.map v8)):=O (λj v c=>cell_below (Q j v c) a);replace P:=cell_below P a;replace R:=cell_below R a;clear a K B l Q m n U
 by_cases B:ck=0
 case neg=>
  have c:(ck==0)=false:=by simpa using B
  have d:decide (ck=0)=false:=by simpa using B
  have j:(ck !=0)=true:=by simpa using B
  obtain rfl:r=false:=by rw[M];exact gA λh=>B (by rw[a4];exact h.tree)
  clear B
  go_wp2_with fail
  go_ret;exact⟨rfl,k⟩
 subst B;have a5:hQ (0=cK g.tree):=a4
 by_cases h4:ep=0
 case pos=>
  subst h4
  by_cases d:0<t
  ·have bf:decide (0<t)=true:=by simpa using d
   have bg:decide ((0:Int)<(t:Int))=true:=by simpa using d
   obtain rfl:r=false:=by rw[M];exact gA λh=>by have:=(h.zero S.symm).1;have e:=WU.out;rw[this]at e;simp at e;omega
   clear d
   go_wp2_with fail
   go_ret;exact⟨rfl,k⟩
  have bf:decide (0<t)=false:=by simpa using d
  have bg:decide ((0:Int)<(t:Int))=false:=by simpa using d
  obtain⟨bh,c⟩:=J ((g.last.map v8).toArray);have bk:=O c;obtain⟨Q,p⟩:=J (decide (g.last=jR 32 0#8));have C:=O p;have j:∀z,(Op.equalIn 10000 23 (ii bh) (ii aI)).run ih z=.ok Q z:=by
   rw[c,p];exact λz=>tH g.last (jR 32 0#8) QC rfl z
  clear c p
  go_upto_region 3 with fail
  refine lo ?_;iterate 10 refine aO ?_
  refine rZ ag λ_ c=>wp_load_mid 23 _ rfl b 2 rfl (g.last.map v8) _ bd.out underlying23 rfl (by rw[jc,QC];kernel_rfl) (c _ _ ?_)
  rw[<-bk];refine L ?_;refine aO ?_
  rcases Q with _|_
  ·obtain rfl:r=false:=by rw[M];exact gA λh=>by have x:=(h.zero S.symm).2;have B:=C.out;rw[decide_eq_true x]at B;cases B
   go_wp2_with fail
   go_ret;exact⟨rfl,k⟩
  have U:hQ (r=(decide (g.mem.map Mem.dev=aU g.tree)&& !(g.mem.any (fc g.epoch)))):=O (by
   rw[M];exact zl (of_decide_eq_true a1.symm) (by rw[<-S];exact Zl) a5.symm (λe=>⟨ow (by rw[<-WU];simpa using d),of_decide_eq_true C.symm⟩))
  clear C d;obtain⟨Q,p⟩:=J (decide (g.mem.map Mem.dev=aU g.tree));obtain⟨wr,V⟩:=J (g.mem.any (fc g.epoch));rw[<-p,<-V]at U;have C:hQ (decide (g.mem.map Mem.dev=aU g.tree)=Q):=O p.symm;have a2:=O V;clear p V
  go_upto_region 7 with fail
  clear P R j;refine jU ?_;refine aY (λn=>n.heap[b]?=T (hK ad 54 (0,0))) (.take 0 (.take 1 (.take 2 (.take 3 (.take 5 (.one 4 (.one 6 (.take 7 (.take 8 (.take 9 (.take 10 (.one 11 (.take 12 (.take 13 (.take 14 .done))))))))))))))) ae ae ae G (λ_ _ _ _ h=>h) f ?_;obtain⟨x0,al⟩:=J w1.drew;have a:=aQ w1;rw[<-al]at a⊢;have D:=Z f a;have o:=O (i.below a);have l:=ac k a;clear a al f i k
  cases Q with
  |true=>
   refine aC ?_
   (refine ay (v:=?_) rfl ag (λn d=>?_) ?_;rotate_left;(have E:=cell_of d u;have F:=cell_of d y;go_simp;with_reducible rfl);refine L ?_)
   refine aC ?_
   (refine ay (v:=?_) rfl ag (λn d=>?_) ?_;rotate_left;(have E:=cell_of d u;have F:=cell_of d y;go_simp;with_reducible rfl);refine L ?_)
   refine aC ?_;refine ai rfl (λq c=>?_);go_simp;refine(pJ g.tree vt x0 o.tree SI).mono ?_;rintro e W ⟨a3,rfl,m,a⟩;have s:=O (kT m);obtain⟨pu,cu,rfl,X,aa⟩:=kT m;clear m X aa;have k:=ac l a;have f:=Z D a;have i:=O (o.below a);clear l D o;clear a;refine c _ _ f.out λ_=>?_
   clear c;refine L ?_;refine ai rfl (λq c=>?_);go_simp;refine(tf g.mem (aU g.tree) _ _ W i.mem s Ty au).mono ?_;rintro e x2 ⟨rfl,a⟩;rw[C];have H:=ac k a;have j:=Z f a;have K:=O (i.below a);clear k f i s;clear a;refine c _ _ j.out λ_=>?_
   clear c;refine L ?_;iterate 2 refine aC ?_
   (refine ay (v:=?_) rfl ag (λn d=>?_) ?_;rotate_left;(have E:=cell_of d u;have F:=cell_of d y;go_simp;with_reducible rfl);refine L ?_)
   refine aC ?_;refine ai rfl (λq c=>?_);rw[if_pos ag];go_simp;refine(Cq (zK g (hH pm t cm) vt b x2.heap.size (jq.1 j).1) g.mem _ x2 K.mem ⟨by rw[j,Sc],QC⟩ (je _) Ty).mono ?_;rintro e x3 ⟨rfl,a⟩;rw[<-a2];have O8:=ac H a;have Sw:=Z j a;have bl:=O (K.below a);clear H j K;clear a;refine c _ _ Sw.out λ_=>?_
   clear c;refine L ?_;iterate 3 refine aC ?_
   refine jv ?_
   go_wp2_with fail
   go_ret;exact⟨by rw[U];rfl,O8⟩
  |false=>
   refine aC ?_
   (refine ay (v:=?_) rfl ag (λn d=>?_) ?_;rotate_left;(have E:=cell_of d u;have F:=cell_of d y;go_simp;with_reducible rfl);refine L ?_)
   refine aC ?_
   (refine ay (v:=?_) rfl ag (λn d=>?_) ?_;rotate_left;(have E:=cell_of d u;have F:=cell_of d y;go_simp;with_reducible rfl);refine L ?_)
   refine aC ?_;refine ai rfl (λq c=>?_);go_simp;refine(pJ g.tree vt x0 o.tree SI).mono ?_;rintro e W ⟨a3,rfl,m,a⟩;have s:=O (kT m);obtain⟨pu,cu,rfl,X,aa⟩:=kT m;clear m X aa;have k:=ac l a;have f:=Z D a;have i:=O (o.below a);clear l D o;clear a;refine c _ _ f.out λ_=>?_
   clear c;refine L ?_;refine ai rfl (λq c=>?_);go_simp;refine(tf g.mem (aU g.tree) _ _ W i.mem s Ty au).mono ?_;rintro e x2 ⟨rfl,a⟩;rw[C];have H:=ac k a;have j:=Z f a;have K:=O (i.below a);clear k f i s;clear a;refine c _ _ j.out λ_=>?_
   clear c;refine L ?_;refine aC ?_;iterate 3 refine gB ?_
   refine ai rfl (λq c=>?_);rw[if_neg (o4.1 ag)];refine c _ _ j.out λ_=>?_
   clear c;refine L ?_;refine gB ?_;iterate 2 refine aC ?_
   refine jv ?_
   go_wp2_with fail
   go_ret;exact⟨by rw[U];rfl,H⟩
 have z:decide (ep=0)=false:=by simpa using h4
 have bf:(ep==0)=false:=by simpa using h4
 have U:hQ (r=(decide (g.mem.map Mem.dev=aU g.tree)&& !(g.mem.any (fc g.epoch)))):=O (by rw[M];exact zl (of_decide_eq_true a1.symm) (by rw[<-S];exact Zl) a5.symm (λe=>absurd (S.trans e) h4));clear h4;obtain⟨Q,p⟩:=J (decide (g.mem.map Mem.dev=aU g.tree));obtain⟨wr,V⟩:=J (g.mem.any (fc g.epoch));rw[<-p,<-V]at U;have C:hQ (decide (g.mem.map Mem.dev=aU g.tree)=Q):=O p.symm;have a2:=O V;clear p V
 go_upto_region 7 with fail
 clear P R;refine jU ?_;refine aY (λn=>n.heap[b]?=T (hK ad 54 (0,0))) (.take 0 (.take 1 (.take 2 (.take 3 (.take 5 (.one 4 (.one 6 (.take 7 (.take 8 (.take 9 (.take 10 (.one 11 (.take 12 (.take 13 (.take 14 .done))))))))))))))) ae ae ae G (λ_ _ _ _ h=>h) f ?_;obtain⟨x0,al⟩:=J w1.drew;have a:=aQ w1;rw[<-al]at a⊢;have D:=Z f a;have o:=O (i.below a);have l:=ac k a;clear a al f i k
 cases Q with
 |true=>
  refine aC ?_
  (refine ay (v:=?_) rfl ag (λn d=>?_) ?_;rotate_left;(have E:=cell_of d u;have F:=cell_of d y;go_simp;with_reducible rfl);refine L ?_)
  refine aC ?_
  (refine ay (v:=?_) rfl ag (λn d=>?_) ?_;rotate_left;(have E:=cell_of d u;have F:=cell_of d y;go_simp;with_reducible rfl);refine L ?_)
  refine aC ?_;refine ai rfl (λq c=>?_);go_simp;refine(pJ g.tree vt x0 o.tree SI).mono ?_;rintro e W ⟨a3,rfl,m,a⟩;have s:=O (kT m);obtain⟨pu,cu,rfl,X,aa⟩:=kT m;clear m X aa;have k:=ac l a;have f:=Z D a;have i:=O (o.below a);clear l D o;clear a;refine c _ _ f.out λ_=>?_
  clear c;refine L ?_;refine ai rfl (λq c=>?_);go_simp;refine(tf g.mem (aU g.tree) _ _ W i.mem s Ty au).mono ?_;rintro e x2 ⟨rfl,a⟩;rw[C];have H:=ac k a;have j:=Z f a;have K:=O (i.below a);clear k f i s;clear a;refine c _ _ j.out λ_=>?_
  clear c;refine L ?_;iterate 2 refine aC ?_
  (refine ay (v:=?_) rfl ag (λn d=>?_) ?_;rotate_left;(have E:=cell_of d u;have F:=cell_of d y;go_simp;with_reducible rfl);refine L ?_)
  refine aC ?_;refine ai rfl (λq c=>?_);rw[if_pos ag];go_simp;refine(Cq (zK g (hH pm t cm) vt b x2.heap.size (jq.1 j).1) g.mem _ x2 K.mem ⟨by rw[j,Sc],QC⟩ (je _) Ty).mono ?_;rintro e x3 ⟨rfl,a⟩;rw[<-a2];have O8:=ac H a;have Sw:=Z j a;have bl:=O (K.below a);clear H j K;clear a;refine c _ _ Sw.out λ_=>?_
  clear c;refine L ?_;iterate 3 refine aC ?_
  refine jv ?_
  go_wp2_with fail
  go_ret;exact⟨by rw[U];rfl,O8⟩
 |false=>
  refine aC ?_
  (refine ay (v:=?_) rfl ag (λn d=>?_) ?_;rotate_left;(have E:=cell_of d u;have F:=cell_of d y;go_simp;with_reducible rfl);refine L ?_)
  refine aC ?_
  (refine ay (v:=?_) rfl ag (λn d=>?_) ?_;rotate_left;(have E:=cell_of d u;have F:=cell_of d y;go_simp;with_reducible rfl);refine L ?_)
  refine aC ?_;refine ai rfl (λq c=>?_);go_simp;refine(pJ g.tree vt x0 o.tree SI).mono ?_;rintro e W ⟨a3,rfl,m,a⟩;have s:=O (kT m);obtain⟨pu,cu,rfl,X,aa⟩:=kT m;clear m X aa;have k:=ac l a;have f:=Z D a;have i:=O (o.below a);clear l D o;clear a;refine c _ _ f.out λ_=>?_
  clear c;refine L ?_;refine ai rfl (λq c=>?_);go_simp;refine(tf g.mem (aU g.tree) _ _ W i.mem s Ty au).mono ?_;rintro e x2 ⟨rfl,a⟩;rw[C];have H:=ac k a;have j:=Z f a;have K:=O (i.below a);clear k f i s;clear a;refine c _ _ j.out λ_=>?_
  clear c;refine L ?_;refine aC ?_;iterate 3 refine gB ?_
  refine ai rfl (λq c=>?_);rw[if_neg (o4.1 ag)];refine c _ _ j.out λ_=>?_
  clear c;refine L ?_;refine gB ?_;iterate 2 refine aC ?_
  refine jv ?_
  go_wp2_with fail
  go_ret;exact⟨by rw[U];rfl,H⟩
def kj(g:Grp)(a:Int)(x:Chg):Bool:=(cE g.mem x.d==decide (x.k=1))||(cE g.mem a&&decide (x.d=a))
noncomputable def iH(g:Grp)(a:Int)(l:List Chg):Bool:=by classical exact decide (eS g a l)
theorem pK{g:Grp}{a:Int}{l:List Chg}:iH g a l=true↔eS g a l:=by unfold iH;simp
theorem pQ{g:Grp}{a:Int}{l:List Chg}(h:¬eS g a l):iH g a l=false:=by unfold iH;simpa using h
theorem Bz{g:Grp}{a:Int}{l:List Chg}(c:cE g.mem a=decide (0<g.epoch))(d:g.epoch=0->∃x r,l=x::r/\x.d=a):iH g a l= !(l.any (kj g a)):=by
 have e:∀x:Chg,kj g a x=false↔(cE g.mem x.d=decide (x.k≠1)/\(cE g.mem a=true->x.d≠a)):=λx=>by
  unfold kj
  cases cE g.mem x.d<;>cases cE g.mem a<;>by_cases b:x.k=1<;>by_cases f:x.d=a<;>simp[b,f]
 rw[jZ,pK,Bool.not_eq_true',oo]
 constructor
 ·intro h x b
  rw[(e x).2 (h.each x b)];simp
 intro h;exact⟨c,d,λx b=>(e x).1 (by simpa using h x b)⟩
theorem FV(g:Grp)(vm vt:hZ)(a:Int)(f:Bool)(s t u:Nat)(x:Chg)(w:hU)(k:de w s g vm vt)(K:EM.At w vm g.mem)(M:kt g.mem)(P:g.mem.length<=1000000)
 (v:jj w t 4 (.bool f)) (y:jj w u 3 (I N a)) (Q:f=cE g.mem a):
 ja ih 132 #[ii x.cells.toArray,jd (T ⟨s,0,hF⟩),jd (T ⟨t,0,hF⟩),jd (T ⟨u,0,hF⟩)] w λe w'=>e=jb (.bool (kj g a x))/\ic w w w':=by
 obtain⟨c,b,l,m,n⟩:=x;obtain⟨r,o⟩:=J (kj g a ⟨c,b,l,m,n⟩);rw[<-o];have HR:=O o;unfold Chg.cells;have d:=af w (hK #[I N c,I N b,I N l,I N m,I N n] 59);have p:=jg w (hK #[I N c,I N b,I N l,I N m,I N n] 59);have j:=O (uj g vm vt b _ (K.below d) M P k.llen);have q:=(k.below d).blk;have z:=mC (vm:=vm) (vt:=vt) k.llen;obtain⟨aa,R⟩:=J ((aB g vm vt).toArray);rw[<-R]at j q z;obtain⟨W0,C⟩:=J (w.alloc (hK #[I N c,I N b,I N l,I N m,I N n] 59));obtain⟨B,D⟩:=J w.heap.size;rw[<-C]at j q d p;rw[<-D]at p;have S:=O q;have Py:=O z;have U:=O d;have E:=O p;have V:=O ((d.block _ v.lt).trans v);have W:=O ((d.block _ y.lt).trans y);have ad:=O C;have RQ:=O D;obtain⟨F,H⟩:=J (cE g.mem b);rw[<-H]at j;have h:hQ (r=((F==decide (c=1))||(f&&decide (b=a)))):=O (by rw[o,H,Q];rfl);have X:=cell_of (i:=1) E rfl;clear d p q z R C D o H k K M P v y Q
 go_enter func132,ntmps132
 go_upto_region 1 with fail
 rw[<-ad,<-RQ];refine lo ?_;refine lv rfl 54 _ rfl s rfl 54 aa (0,0) _ S.out jV rfl Py ?_
 go_wp2_with fail
 refine(j).mono ?_;rintro e o ⟨rfl,k⟩;have p:=Z E k;have q:hQ (jj o t 4 (.bool f)):=Z V k;have v:hQ (jj o u 3 (I N a)):=Z W k;have d:=ac U k;clear k j E V W U S X;have y:=cell_of (i:=0) p rfl;have X:=cell_of (i:=1) p rfl;have z:=q.cell;have C:=v.cell
 by_cases hk:c=1
 case pos=>
  subst hk
  cases F with
  |true=>
   obtain rfl:r=true:=by rw[h];simp
   go_wp2_with fail
   go_ret;exact⟨rfl,d⟩
  |false=>
   cases f with
   |true=>
    have j:hQ (r=(b==a)):=O (by rw[h];simp;rfl)
    go_wp2_with fail
    go_ret;exact⟨iD j.symm,d⟩
   |false=>
    obtain rfl:r=false:=by rw[h];simp
    go_wp2_with fail
    go_ret;exact⟨rfl,d⟩
 have D:(c==1)=false:=by simpa using hk
 have k:decide (c=1)=false:=by simpa using hk
 clear hk
 rcases F with _|_
 ·obtain rfl:r=true:=by rw[h,k];simp
  go_wp2_with fail
  go_ret;exact⟨rfl,d⟩
 cases f with
 |true=>
  have j:hQ (r=(b==a)):=O (by rw[h,k];simp;rfl)
  go_wp2_with fail
  go_ret;exact⟨iD j.symm,d⟩
 |false=>
  obtain rfl:r=false:=by rw[h,k];simp
  go_wp2_with fail
  go_ret;exact⟨rfl,d⟩
theorem Ma(g:Grp)(vm vt:hZ)(a:Int)(c:Bool)(d e f:Nat)(b:hU)(k:de b d g vm vt)(l:EM.At b vm g.mem)(m:kt g.mem)(n:g.mem.length<=1000000)
 (i:jj b e 4 (.bool c)) (j:jj b f 3 (I N a)) (o:c=cE g.mem a):
 fz EC 132 #[jd (T ⟨d,0,hF⟩),jd (T ⟨e,0,hF⟩),jd (T ⟨f,0,hF⟩)] b.heap.size (λW=>ic b b W) (kj g a) where
 enter _ _:=rfl
 keep w w' hn h hB:=h.trans hB
 call x w hn h:=FV g vm vt a c d e f x w (k.below h) (l.below h) m n ((h.block _ i.lt).trans i) ((h.block _ j.lt).trans j) o
theorem rJ{g:Grp}(h:cG g):kt g.mem:=by
 intro i j c a;have b:=uo g.tree;rw[<-h.dev]at b;have:=(ob.1 b) i j (by rw[jc];omega) (by rw[jc];exact a) c;rw[ol,ol]at this;rw[eh _ Y,eh _ a];exact this
theorem Kr(g:Grp)(vm vt vl:hZ)(a:Int)(l:List Chg)(w:hU)(h:cS w g vm vt)(f:cG g)(z:g.mem.length<=1000000)(E:EC.At w vl l)(hl:l.length<=1000000):
 ja ih 65 #[ii (aB g vm vt).toArray,I N a,vl] w λe w'=>e=jb (.bool (iH g a l))/\ic w w w':=by
 obtain⟨r,F⟩:=J (iH g a l);rw[<-F];have k:=O F;have j:=af w (hK (aB g vm vt).toArray 54);have H:=de.new w (vm:=vm) (vt:=vt) h.llen;obtain⟨B,b⟩:=J (w.alloc (hK (aB g vm vt).toArray 54));rw[<-b]at j H;have m:=af B (hK #[I N a] 3);have d:=Boxed.new B 3 (I N a);have K:=H.below m;obtain⟨W2,M⟩:=J (B.alloc (hK #[I N a] 3));rw[<-M]at m d K;have o:=j.trans (m.mono j.size);have s:=h.below o;have P:=E.below o;have x:=O (uj g vm vt a W2 s.mem (rJ f) z s.llen);have Q:=mC (vm:=vm) (vt:=vt) h.llen;have u:=K.blk;obtain⟨al,R⟩:=J ((aB g vm vt).toArray);rw[<-R]at b x Q u⊢;obtain⟨C,y⟩:=J w.heap.size;obtain⟨p,S⟩:=J B.heap.size;rw[<-y]at u;rw[<-S]at d;obtain⟨pl,cl,rfl,RU,-⟩:=E.form;obtain⟨n,U⟩:=J l.length;obtain⟨q,V⟩:=J (cE g.mem a);obtain⟨ep,D⟩:=J g.epoch;have au:=O f.ep.1;have a1:=O (rJ f);rw[<-V]at x;rw[<-U]at RU P⊢;have a2:=O b;have a3:=O M;have a4:=O y;have SU:hQ (p=C+1):=O (by rw[S,y,b];simp);have Sc:=O R;have Py:=O Q;have W:=O u;have X:=O d;have O4:=O o;have SN:=O s;have Pu:=O P;have RY:=O U;have t:=O V;have c:=O D;have a5:=O hl;have WP:=O z;have bb:hQ (p<W2.heap.size):=O d.lt;clear F j H b m d K M o s P Q u R y S U V D E hl z h f
 go_enter func65,ntmps65
 go_upto_region 1 with fail
 rw[<-a2,<-a4,<-a3,<-SU];refine lo ?_;refine lv rfl 54 _ rfl C rfl 54 al (0,0) _ W.out jV rfl Py ?_;have P:=X.cell
 go_wp2_with fail
 refine(x).mono ?_;rintro e u ⟨rfl,b⟩;have j:=Z W b;have m:hQ (jj u p 3 (I N a)):=Z X b;have y:=O (SN.below b);have z:=O (Pu.below b);have E:=ac O4 b;clear b x W X SN Pu O4 P
 go_upto_region 2 with fail
 have b:=af u (hK #[.bool q] 4);have d:=Boxed.new u 4 (.bool q);obtain⟨f,x⟩:=J (u.alloc (hK #[.bool q] 4));obtain⟨Q,F⟩:=J u.heap.size;rw[<-x]at b d⊢;rw[<-F]at d⊢;have R:=Z j b;have S:hQ (jj f p 3 (I N a)):=Z m b;have U:=O (y.below b);have V:=O (z.below b);have s:=ac E b;have W:=O d;clear b x F d j m y z E;have P:=W.cell;have c1:=S.cell;have c2:=cell_of (i:=1) (v:=I N ep) R.out (by rw[Sc,c];rfl);have X:hQ (∀z:hU,(∃m,z=f.drewN m)->ja ih 58 #[hH pl n cl,.func (.func 132) #[] #[jd (T ⟨C,0,hF⟩),jd (T ⟨Q,0,hF⟩),jd (T ⟨p,0,hF⟩)]] z λe w'=>e=jb (.bool (l.any (kj g a)))/\ic w w w'):=O (by
  rintro z ⟨m,rfl⟩;have b:ic f f (f.drewN m):=(jt _ _).trans ⟨rfl,rfl,rfl,je _,λ_ _=>rfl⟩;refine(D6 (Ma g vm vt a q C Q p (f.drewN m) ⟨by rw[ak R b,Sc],U.llen⟩ (U.mem.below b) a1 WP (ak W b) (ak S b) t) l _ _ (V.below b) (jt _ _) (je _) a5).mono ?_;rintro e w' ⟨rfl,o⟩;exact⟨rfl,s.trans ((b.trans (o.mono b.size)).mono s.size)⟩)
 by_cases b:0<ep
 case pos=>
  have m:decide (0<ep)=true:=by simpa using b
  have x:(ep==0)=false:=by simp;omega
  have j:=O b;clear b
  rcases q with _|_
  ·obtain rfl:r=false:=by
    rw[k];exact pQ λh=>by have d:=h.own;rw[<-t,<-c,m]at d;cases d
   go_quiet (fail)
   go_wp2_with fail
   go_ret;exact⟨rfl,s.trans ⟨rfl,rfl,rfl,je _,λ_ _=>rfl⟩⟩
  have E:hQ (r= !(l.any (kj g a))):=O (by rw[k];exact Bz (by rw[<-t,<-c,m]) (λe=>absurd (c.trans e) (aw j)))
  go_quiet (fail)
  go_wp2_with fail
  refine(X _ ⟨_,rfl⟩).mono ?_;rintro e w5 ⟨rfl,y⟩;have F:=O y;clear y
  go_wp2_with fail
  go_ret;exact⟨iD E.symm,F⟩
 have m:decide (0<ep)=false:=by simpa using b
 have D:ep=0:=by have:=au.out;rw[<-c]at this;omega
 subst D;clear b
 cases q with
 |true=>
  obtain rfl:r=false:=by
   rw[k];exact pQ λh=>by have d:=h.own;rw[<-t,<-c,m]at d;cases d
  go_quiet (fail)
  go_wp2_with fail
  go_ret;exact⟨rfl,s.trans ⟨rfl,rfl,rfl,je _,λ_ _=>rfl⟩⟩
 |false=>
 by_cases d:n=0
 case pos=>
  subst d;obtain rfl:r=false:=by
   rw[k];exact pQ λh=>by
    obtain⟨x,r,b,-⟩:=h.first c.symm;have j:=RY.out;rw[b]at j;simp at j
  go_quiet (fail)
  go_wp2_with fail
  go_ret;exact⟨rfl,s.trans ⟨rfl,rfl,rfl,je _,λ_ _=>rfl⟩⟩
 have bc:((n:Int)==0)=false:=by simp;omega
 have ba:0<n:=Y;obtain⟨g0,o0,rfl,aa⟩:=(V.cells).2.2 ba;obtain⟨x,H,K⟩:∃x H,l=x::H:=by
  rcases l with _|⟨x,r⟩
  ·have:=RY.out;simp at this;omega
  exact⟨x,r,rfl⟩
 have c3:f.cell? ⟨g0,o0+1,hF⟩=T (I N x.d):=by
  have h:=aa 0 x (by rw[K];rfl) 1 _ rfl;rw[Nat.zero_mul,Nat.add_zero]at h;exact h
 obtain⟨z,M⟩:=J x.d;rw[<-M]at c3;have YB:=O K;have ad:=O M;clear aa K M d
 by_cases b:z=a
 case neg=>
  have K:(z==a)=false:=by simpa using b
  have M:(z !=a)=true:=by simpa using b
  obtain rfl:r=false:=by
   rw[k];exact pQ λh=>by
    obtain⟨x2,r2,j,h5⟩:=h.first c.symm;rw[YB]at j;injection j with j _
    subst j;exact b (ad.trans h5)
  clear b
  go_quiet (fail)
  go_wp2_with fail
  go_ret;exact⟨rfl,s.trans ⟨rfl,rfl,rfl,je _,λ_ _=>rfl⟩⟩
 have K:(z==a)=true:=by simpa using b
 have M:(z !=a)=false:=by simpa using b
 have E:hQ (r= !(l.any (kj g a))):=O (by rw[k];exact Bz (by rw[<-t,<-c,m]) (λe=>⟨x,H,YB,by rw[<-ad];exact b⟩));clear b
 go_quiet (fail)
 go_wp2_with fail
 refine(X _ ⟨_,rfl⟩).mono ?_;rintro e w5 ⟨rfl,y⟩;have F:=O y;clear y
 go_wp2_with fail
 go_ret;exact⟨iD E.symm,F⟩
def mf(x:Chg):Prop:=(x.k=1/\aN x.p/\aN x.v/\x.c=0)\/(x.k=2/\x.p=0/\x.v=0/\0<=x.c/\x.c<=1048576)\/(x.k=3/\aN x.p/\aN x.v/\0<=x.c/\x.c<=1048576)
noncomputable def iT(x:Chg):Bool:=by classical exact decide (mf x)
noncomputable def pC(x:Chg):Bool:=decide (bL x.p=0)&&decide (bL x.v=0)
def ou(x:Chg):Bool:=decide (0<=x.c)&&decide (x.c<=1048576)
theorem uL{n:Int}:bL n=0↔aN n:=⟨λh=>by
 by_cases g:aN n
 ·exact g
 rw[iR g]at h;exact absurd h G,fq⟩
theorem BH{x:Chg}:pC x=true↔aN x.p/\aN x.v:=by unfold pC;simp[uL]
theorem Ca{x:Chg}:ou x=true↔0<=x.c/\x.c<=1048576:=by unfold ou;simp
theorem nT{x:Chg}:iT x=true↔mf x:=by unfold iT;simp
theorem ND{x:Chg}(h:x.k=1):iT x=(pC x&&(x.c==0)):=by
 rw[jZ,j9,BH,beq_iff_eq,nT];unfold mf;simp[h,and_assoc]
theorem OC{x:Chg}(h:x.k=2):iT x=((x.p==0)&&(x.v==0)&&ou x):=by
 rw[jZ,j9,j9,Ca,beq_iff_eq,beq_iff_eq,nT];unfold mf;simp[h,and_assoc]
theorem Gq{x:Chg}(h:x.k=3):iT x=(pC x&&ou x):=by
 rw[jZ,j9,BH,Ca,nT];unfold mf;simp[h,and_assoc]
theorem H4{x:Chg}(a:x.k≠1)(b:x.k≠2)(c:x.k≠3):iT x=false:=by
 have h:¬mf x:=by unfold mf;simp[a,b,c]
 cases hb:iT x with
 |false=>rfl
 |true=>exact absurd (nT.1 hb) h
noncomputable def fY(l:List Chg):Bool:=by classical exact decide (dD l)
theorem mo{l:List Chg}:fY l=true↔dD l:=by unfold fY;simp
theorem BD{l:List Chg}(h:¬dD l):fY l=false:=by unfold fY;simpa using h
structure kf(l:List Chg):Prop where
 each:∀x∈l,pG x
 once:(l.map Chg.d).Nodup
theorem kf.nil:kf []:=⟨(λx h=>by cases h),by simp⟩
theorem kf.snoc{l:List Chg}{x:Chg}(h:kf l)(f:eF x.d)(g:iT x=true)(i:x.d∉l.map Chg.d):kf (l++[x]):=by
 refine⟨λy c=>?_,?_⟩
 ·rcases jG.1 c with c|c
  ·exact h.each y c
  rw[ki]at c;subst c;refine⟨f,?_⟩;exact nT.1 g
 rw[jA,qw];refine⟨h.once,by simp,λa j b d=>?_⟩;simp at d;subst d;exact λe=>i (e▸j)
theorem tP{l:List Chg}{k:Nat}{x:Chg}(a:l[k]?=T x)(h:¬eF x.d\/iT x=false\/x.d∈(l.take k).map Chg.d):fY l=false:=by
 refine BD λb=>?_
 have c:=b.each x (jw a)
 rcases h with h|h|h
 ·exact h c.1
 ·rw[nT.2 c.2]at h;cases h
 have f:l=l.take k++l.drop k:=(List.take_append_drop k l).symm;have g:x∈l.drop k:=by
  obtain⟨hk,e⟩:=jY.1 a;rw[List.drop_eq_getElem_cons hk,e];exact js ..
 have d:=b.once;rw[f,jA,qw]at d;exact d.2.2 _ h _ (jf.2 ⟨x,g,rfl⟩) rfl
theorem J8{l:List Chg}(h:kf l):fY l=decide (l.length<=64):=by
 rw[jZ,mo,decide_eq_true_iff];exact⟨λh=>h.len,λa=>⟨h.each,h.once,a⟩⟩
theorem Lx(a:List Int)(y:Int):(dm a y).getD false=decide (y∈a):=by
 unfold dm
 split<;>simp_all
theorem wh(l:List Chg)(v:hZ)(w:hU)(h:EC.At w v l)(hl:l.length<=1000000):
 ja ih 24 #[v] w λe w'=>e=jb (.bool (fY l))/\ic w w w':=by
 obtain⟨V,a⟩:=J (fY l);rw[<-a];have W:=O a;obtain⟨p,c,rfl,hc,-⟩:=h.form;have HU:=O h;obtain⟨n,b⟩:=J l.length;have HN:=O b;rw[<-b]at hl hc HU⊢;have d:=aH.made (fM lw) 3 w;have f:=af w (.map #[] 0);have aa:=O d;have O6:=O f;have g:=@run_makeMap ih;clear h b a d f
 go_enter func24,ntmps24
 go_wp2_with fail
 clear g;obtain⟨M,a⟩:=J w.heap.size;have R3:=O a;rw[<-a]at aa⊢;obtain⟨W0,b⟩:=J (w.alloc (.map #[] 0));rw[<-b]at aa O6⊢;clear a b
 go_loopw [12] (λi wr=>∃k:Nat,i=I N k/\k<=n/\hQ (aH (fM lw) 3 wr M k (dm ((l.take k).map Chg.d)))/\hQ (kf (l.take k))/\hQ (ic w w wr)) (λi _=>n-(ji i).toNat)
 case atStart=>exact⟨0,rfl,jI _,O (aa.congr (λx _=>by simp[dm])),O (by simpa using kf.nil),O6⟩
 obtain⟨k,rfl,hk,z,HP,a⟩:=hrel
 by_cases a1:k<n
 case neg=>
  have y:=ar ((k:Int)<(n:Int));have a2:=ar (k<n);obtain rfl:k=n:=Y;have b:hQ (V=decide (k<=64)):=O (by
   have h:=HP.out;rw[jB (by rw[<-HN];exact je _)]at h;rw[W,J8 h,<-HN])
  go_wp2_with fail
  go_ret;exact⟨iD (by rw[b,jZ,decide_eq_true_iff,decide_eq_true_iff];omega),a⟩
 have y:=ap ((k:Int)<(n:Int));have a2:=ap (k<n);obtain⟨e,he,K⟩:=dS (l:=l) (j:=k) (by rw[<-HN];exact a1);obtain⟨g,o,rfl,b⟩:=(HU.cells).2.2 Y;have HE:=O he;have UV:=O K;have Q:=O (ND (x:=e));have R:=O (OC (x:=e));have D:=O (Gq (x:=e));have X:=O (H4 (x:=e));obtain⟨kb,B⟩:=J (pC e);obtain⟨F,C⟩:=J (ou e);obtain⟨s,H⟩:=J (iT e);have Wp:=O B;have Qq:=O C;have al:=O H;rw[<-B]at Q D;rw[<-C]at R D;rw[<-H]at X Q R D;obtain⟨d,f,ep,u,r⟩:=e;have c0:wr.cell? ⟨g,o+k*5,hF⟩=T (I N d):=cell_below (b k _ he 0 _ rfl) a;have c1:wr.cell? ⟨g,o+k*5+1,hF⟩=T (I N f):=cell_below (b k _ he 1 _ rfl) a;have S:wr.cell? ⟨g,o+k*5+2,hF⟩=T (I N ep):=cell_below (b k _ he 2 _ rfl) a;have c3:wr.cell? ⟨g,o+k*5+3,hF⟩=T (I N u):=cell_below (b k _ he 3 _ rfl) a;have c4:wr.cell? ⟨g,o+k*5+4,hF⟩=T (I N r):=cell_below (b k _ he 4 _ rfl) a;have U:=af wr (hK #[I N d,I N f,I N ep,I N u,I N r] 59);have hX:=jg wr (hK #[I N d,I N f,I N ep,I N u,I N r] 59);have m:=O U;have q:=O hX;dsimp only at X Q R D;clear b he K B C H U hX
 go_upto_region 5 with fail
 obtain⟨B,b⟩:=J wr.heap.size;rw[<-b]at q⊢;obtain⟨W1,C⟩:=J (wr.alloc (hK #[I N d,I N f,I N ep,I N u,I N r] 59));rw[<-C]at m q⊢;have K:=O (z.below m z.lt);have OZ:=O (a.trans (m.mono a.size));have RQ:=O b;clear b C c0 c1 S c3 c4 z a m
 go_cut [6] (λv b=>v=.bool kb/\hQ (ic W1 W1 b))
 case first=>
  have b2:=cell_of (i:=2) q rfl;have b3:=cell_of (i:=3) q rfl;have U:=O (fk ep);have PM:=O (fk u);have C:hQ (kb=(decide (bL ep=0)&&decide (bL u=0))):=O Wp;obtain⟨S,a⟩:=J (bL ep);obtain⟨c3,m⟩:=J (bL u);rw[<-a]at U C;rw[<-m]at PM C;clear a m
  go_wp2_with fail
  refine(U _).mono ?_;rintro e w2 ⟨rfl,a⟩;replace b3:=cell_below b3 a;have z:=O a;clear a b2
  by_cases m:S=0
  ·subst m
   go_wp2_with fail
   refine(PM _).mono ?_;rintro e w3 ⟨rfl,a⟩;have H:=ac z a;clear a
   go_wp2_with fail
   go_meet
   exact⟨by rw[C,<-IV];rfl,H⟩
  have au:(S==0)=false:=by simpa using m
  have ad:decide (S=0)=false:=by simpa using m
  obtain rfl:kb=false:=by rw[C,ad];rfl
  clear m
  go_wp2_with fail
  go_meet
  exact⟨rfl,z⟩
 obtain⟨rfl,z⟩:=hcut;have U:=O (ak q z);have Qk:=O (K.below z K.lt);have H:=O (OZ.trans (z.mono OZ.size));clear q K OZ z;have b4:=cell_of (i:=4) U rfl
 go_upto_region 6 with fail
 go_cut [7] (λv b=>v=.bool F/\wc=b)
 case first=>
  have a:hQ (F=(decide (0<=r)&&decide (r<=1048576))):=O Qq
  by_cases q:0<=r
  ·have y:decide (0<=r)=true:=by simpa using q
   have C:hQ (F=decide (r<=1048576)):=O (by rw[a,y];rfl)
   go_wp2_with fail
   go_meet
   exact⟨congrArg pa C.symm,rfl⟩
  have y:decide (0<=r)=false:=by simpa using q
  obtain rfl:F=false:=by rw[a,y];rfl
  clear q
  go_wp2_with fail
  go_meet
  exact⟨rfl,rfl⟩
 obtain⟨rfl,rfl⟩:=hcut;have b0:=cell_of (i:=0) U rfl;have b2:=cell_of (i:=2) U rfl;have b3:=cell_of (i:=3) U rfl
 go_upto_block 2 with fail
 go_cut [8] (λv b=>v=.bool s/\wc=b)
 case first=>
  by_cases q:d=1
  ·have y:(d==1)=true:=by simpa using q
   have a:=Q q;clear q
   rcases kb with _|_
   ·obtain rfl:s=false:=by rw[a];rfl
    clear a
    go_wp2_with fail
    go_meet
    exact⟨rfl,rfl⟩
   have C:hQ (s=(r==0)):=O (by rw[a];rfl);clear a
   go_wp2_with fail
   go_meet
   exact⟨congrArg pa C.symm,rfl⟩
  have y:(d==1)=false:=by simpa using q
  by_cases m:d=2
  ·have au:(d==2)=true:=by simpa using m
   have a:=R m;clear q m
   by_cases b:ep=0
   ·have ad:(ep==0)=true:=by simpa using b
    by_cases K:u=0
    ·have a3:(u==0)=true:=by simpa using K
     have C:hQ (s=F):=O (by rw[a,b,K];simp);clear a b K
     go_wp2_with fail
     go_meet
     exact⟨congrArg pa C.symm,rfl⟩
    have a3:(u==0)=false:=by simpa using K
    obtain rfl:s=false:=by rw[a];simp[K]
    clear a b K
    go_wp2_with fail
    go_meet
    exact⟨rfl,rfl⟩
   have ad:(ep==0)=false:=by simpa using b
   obtain rfl:s=false:=by rw[a];simp[b]
   clear a b
   go_wp2_with fail
   go_meet
   exact⟨rfl,rfl⟩
  have au:(d==2)=false:=by simpa using m
  by_cases b:d=3
  ·have ad:(d==3)=true:=by simpa using b
   have a:=D b;clear q m b
   rcases kb with _|_
   ·obtain rfl:s=false:=by rw[a];rfl
    clear a
    go_wp2_with fail
    go_meet
    exact⟨rfl,rfl⟩
   have C:hQ (s=F):=O (by rw[a];rfl);clear a
   go_wp2_with fail
   go_meet
   exact⟨congrArg pa C.symm,rfl⟩
  have ad:(d==3)=false:=by simpa using b
  obtain rfl:s=false:=X q m b;clear q m b
  go_wp2_with fail
  go_meet
  exact⟨rfl,rfl⟩
 obtain⟨rfl,rfl⟩:=hcut;clear b0 b2 b3 b4 X Q R D Wp Qq;have b1:=cell_of (i:=1) U rfl
 cases s with
 |false=>
  obtain rfl:V=false:=by rw[W];exact tP HE (.inr (.inl al.symm))
  go_wp2_with fail
  go_ret;exact⟨rfl,H⟩
 |true=>
 have a:=O (ye f);obtain⟨Q,b⟩:=J (decide (eF f));rw[<-b]at a;have q:=O b;clear b
 go_wp2_with fail
 refine(a _).mono ?_;rintro e w4 ⟨rfl,rfl⟩;clear a
 cases Q with
 |false=>
  obtain rfl:V=false:=by rw[W];exact tP HE (.inl (by have h:=q.symm;simpa using h))
  go_wp2_with fail
  go_ret;exact⟨rfl,H⟩
 |true=>
 have a:eF f:=of_decide_eq_true q.symm;have b:I64 f:=I64.of (by unfold eF at a;omega);have R:=O a;have C:=Qk.look (P:=ih) jF (t:=147) underlying147 (yf _) b false;obtain⟨D,m⟩:=J (decide (f∈(l.take k).map Chg.d));have au:(Instr.lookup 147 (.map (T M)) (I N f) false).run ih wc=.ok (.bool D) wc:=by
  rw[C,m,<-Lx];rfl
 have K:=O m;have X:=O b;clear a b C m
 cases D with
 |true=>
  obtain rfl:V=false:=by rw[W];exact tP HE (.inr (.inr (of_decide_eq_true K.symm)))
  go_wp2_with fail
  go_ret;exact⟨rfl,H⟩
 |false=>
 have C:hQ (kf (l.take (k+1))):=O (by
  rw[UV];exact HP.snoc R al.symm (of_decide_eq_false K.symm))
 have HS:hQ ((l.take (k+1)).map Chg.d=(l.take k).map Chg.d++[f]):=O (by rw[UV,jA];rfl);have a3:k<1000001:=Y;have ad:hQ (M<wc.heap.size):=O Qk.lt;have a:hQ (w.heap.size<=M):=O (by rw[R3];exact je _)
 go_wp2_with (at_mapUpdate;refine mn (E:=fM lw) rfl _ _ _ 147 rfl jF underlying147 M _ _ rfl Qk (by unfold maxLen;omega) f rfl X true rfl trivial ?_;intro w3 b m;have QI:=O b;have TR:=O m;clear b m)
 exact⟨⟨k+1,by go_num,by omega,O (by
  have h:=QI.out;rw[uN]at h;rw[HS];exact h),C,O (H.grown TR.grown (dP ad a) (λj e=>by cases e;exact a))⟩,by simp only[ji];omega⟩
theorem iO{w:hU}{v:hZ}{t:List (Int×Int)}(h:aT w v t):∃p n c,v=hH p n c:=by
 obtain⟨p,c,a,-⟩:=h;exact⟨p,_,c,a⟩
theorem vR{n:Int}(h:aN n):I64 n:=I64.of (by have:=h.1;have:=h.2.1;omega)
theorem aT.setRow{w:hU}{v:hZ}{t:List (Int×Int)}{b:Nat}{p:Option jp}{n c:Nat}{l:jo}{fr:Nat×Nat}{cs:Array hZ}(h:aT w v t)(m:w.heap[b]?=T (hK #[hH p n c] l fr)):aT (w.setRow b cs) v t:=by
 have f:∀(g o:Nat) (x:Int),w.cell? ⟨g,o,hF⟩=T (I N x)->(w.setRow b cs).cell? ⟨g,o,hF⟩=T (I N x):=λg o x d=>by
  by_cases e:g=b
  ·subst e
   exfalso
   unfold j7 at d;rw[m]at d
   rcases o with _ |o<;>simp at d
  rw[<-d];exact bz (a:=⟨g,o,hF⟩) (jJ _ _ _ _ e)
 obtain⟨p,c,q,r,s,u,y⟩:=h;refine⟨p,c,q,r,s,λz=>?_,y⟩;obtain⟨g,o,e,i⟩:=u z;exact⟨g,o,e,λj k=>⟨f _ _ _ (i j k).1,f _ _ _ (i j k).2⟩⟩
theorem nG:(ih.info? 52).map (·.size)=T 1:=by kernel_rfl
theorem tW(g:Grp)(vm vt vl:hZ)(l:List Chg)(w:hU)(h:cS w g vm vt)(u:dD l)(z:g.tree.length<=700000)(v:EC.At w vl l):
 ja ih 41 #[ii (aB g vm vt).toArray,vl] w λe w'=>∃M,e=jb (ii #[M])/\aT w' M (aJ g.tree l)/\ic w w w':=by
 obtain⟨f,q,b,rfl⟩:=iO h.tree;obtain⟨r,x⟩:=J ((aB g vm (hH f q b)).toArray);have B:r[35]?=T (hH f q b):=by rw[x];simpa using(lx (vm:=vm) (vt:=hH f q b) h.llen).2.2.2
 rw[<-x];have ZV:=O B;obtain⟨x0,c⟩:=J ((((w.alloc (hK r 54)).alloc (hK #[hH hF 0 0] 52)).alloc (hK #[hH f q b] 52)));obtain⟨d,k⟩:=J w.heap.size;have a:=jg w (hK r 54);have m:=af w (hK r 54);have i:=jg (w.alloc (hK r 54)) (hK #[hH hF 0 0] 52);have o:=af (w.alloc (hK r 54)) (hK #[hH hF 0 0] 52);have p:=jg ((w.alloc (hK r 54)).alloc (hK #[hH hF 0 0] 52)) (hK #[hH f q b] 52);have s:=af ((w.alloc (hK r 54)).alloc (hK #[hH hF 0 0] 52)) (hK #[hH f q b] 52);replace a:=ak a o;replace a:=ak a s;rw[jX]at i;replace i:=ak i s;rw[jX,jX]at p;have t:=((m).trans (o.mono (m).size)).trans (s.mono ((m).trans (o.mono (m).size)).size);rw[<-c]at t;rw[<-c,<-k]at a;rw[<-c,<-k]at i;rw[<-c,<-k]at p;have ZT:=O a;have Pv:=O i;have al:=O p;have O6:=O t;have HW:=O c;have P:=O k;obtain⟨pl,cl,rfl,RU,-⟩:=v.form;obtain⟨n,y⟩:=J l.length;have C:=u.len;have a5:n<=64:=Y;have UH:hQ (aT x0 (hH f q b) g.tree):=O (h.tree.below t);have Pm:hQ (EC.At w (hH pl l.length cl) l):=O v;rw[<-y]at Pm RU⊢;have RY:=O y;have HF:=O u;have SI:=O z;clear t c k a m i o p s x y C u z v h B
 go_enter func41,ntmps41
 have a:((w.alloc (hK r 54)).alloc (hK #[hH hF 0 0] 52)).cell? ⟨w,35,hF⟩=T (hH f q b):=cell_of (ak (jg w _) (af _ _)) ZV
 go_upto_region 2 with fail
 clear a;rw[<-HW,<-P]
 go_wp2_with fail
 go_loopw [12] (λi wr=>∃(k:Nat) (p:Option jp) (m c:Nat),i=I N k/\k<=n/\hQ (wr.heap[d+1+1]?=T (hK #[hH p m c] 52 (0,0)))/\hQ (wr.heap[d+1]?=T (hK #[hH hF 0 0] 52 (0,0)))/\hQ (aT wr (hH p m c) (aJ g.tree (l.take k)))/\hQ (ic w w wr)) (λi _=>n-(ji i).toNat)
 case atStart=>exact⟨0,f,q,b,rfl,jI _,al,Pv,UH,O6⟩
 obtain⟨k,p,m,c,rfl,hk,C,v,x,s⟩:=hrel
 by_cases au:k<n
 case neg=>
  have a1:=ar ((k:Int)<(n:Int));have a2:=ar (k<n);obtain rfl:k=n:=Y;have b:=cell_of (i:=0) C rfl;have a:hQ (aT wr (hH p m c) (aJ g.tree l)):=O (by have h:=x.out;rw[jB (by rw[<-RY];exact je _)]at h;exact h);have t:d+1≠d+1+1:=Y
  go_wp2_with (refine qK rfl λ_ y=>jK 52 _ _ rfl (d+1) #[hH p m c] rfl rfl 52 _ v.out nG ag (by simp[pr]) (y _ _ ?_))
  have o:(wr.setRow (d+1) #[hH p m c]).heap[d+1]?=T (hK #[hH p m c] 52 (0,0)):=jL _ _ _ _ _ _ v.out;refine j6 (results_cell_row rfl _ _ (d+1) 52 _ (0,0) _ rfl o underlying52 rfl nG) rfl ?_;exact⟨_,rfl,a.setRow v,jM s.out (by rw[P];omega) _⟩
 have a1:=ap ((k:Int)<(n:Int));have a2:=ap (k<n);obtain⟨e,he,D⟩:=dS (l:=l) (j:=k) (by rw[<-RY];exact au);obtain⟨z,o,rfl,a⟩:=(Pm.cells).2.2 Y;have B:=HF.each e (jw he);have HI:hQ (I64 e.d):=O (I64.of (by have:=B.1;unfold eF at this;omega));have ad:hQ (e.k≠2->I64 e.p):=O (λt=>by
  rcases B.2 with h|h|h
  ·exact vR h.2.1
  ·exact absurd h.1 t
  exact vR h.2.1)
 have Qa:hQ (aJ g.tree (l.take (k+1))=eC (aJ g.tree (l.take k)) e):=O (by rw[D,Mr]);have T6:hQ ((aJ g.tree (l.take k)).length<=800000):=O (by have:=tp g.tree (l.take k);have:=SI.out;have:=j0 k l;omega);generalize aJ g.tree (l.take k)=Q at Qa T6 x;obtain⟨u,t,ep,R,S⟩:=e;have H:wr.cell? ⟨z,o+k*5,hF⟩=T (I N u):=cell_below (a k _ he 0 _ rfl) s;have K:wr.cell? ⟨z,o+k*5+1,hF⟩=T (I N t):=cell_below (a k _ he 1 _ rfl) s;have c2:wr.cell? ⟨z,o+k*5+2,hF⟩=T (I N ep):=cell_below (a k _ he 2 _ rfl) s;have c3:wr.cell? ⟨z,o+k*5+3,hF⟩=T (I N R):=cell_below (a k _ he 3 _ rfl) s;have c4:wr.cell? ⟨z,o+k*5+4,hF⟩=T (I N S):=cell_below (a k _ he 4 _ rfl) s;dsimp only at HI ad;clear a he D B
 go_upto_region 5 with fail
 obtain⟨U,a⟩:=J wr;rw[<-a]at C v x s H K c2 c3 c4⊢;clear a;have a:=af U (hK #[I N u,I N t,I N ep,I N R,I N S] 59);have D:=jg U (hK #[I N u,I N t,I N ep,I N R,I N S] 59);obtain⟨y2,hx⟩:=J (U.alloc (hK #[I N u,I N t,I N ep,I N R,I N S] 59));rw[<-hx]at a D⊢;obtain⟨E,F⟩:=J U.heap.size;rw[<-F]at D⊢;have ba:=O F;have B:=Z C a;have V:=Z v a;have W:=O (x.below a);have X:=ac s a;clear C v x s;have x:=O D;clear D hx a F;have b0:=cell_of (i:=0) x rfl;have b1:=cell_of (i:=1) x rfl;have b2:=cell_of (i:=2) x rfl;have t0:=cell_of (i:=0) B rfl;clear H K c2 c3 c4
 by_cases s:u=2
 ·have a3:(u==2)=true:=by simpa using s
  have aa:hQ (aJ g.tree (l.take (k+1))=lW Q t):=O (by rw[Qa];exact if_pos s);clear s
  go_wp2_with fail
  refine(Ld Q (hH p m c) t y2 W T6 HI).mono ?_;rintro e y3 ⟨M,rfl,C,a⟩;have D:=O C;clear C b0 b1 b2 t0;have v:=Z B a;have PL:=Z V a;have O8:=ac X a;clear B V W X x;clear a;obtain⟨F,H,K,rfl⟩:=iO D
  go_wp2_with (refine qK rfl λ_ y=>jK 52 _ _ rfl (d+1+1) #[hH F H K] rfl rfl 52 _ v.out nG ag (by simp[pr]) (y _ _ ?_))
  exact⟨⟨k+1,F,H,K,by go_num,by omega,O (jL _ _ _ _ _ _ v.out),O ((jJ _ _ _ _ Y).trans PL),O (by rw[aa];exact D.setRow v),O (jM O8.out (by rw[P];omega) _)⟩,by simp only[ji];omega⟩
 have a3:(u==2)=false:=by simpa using s
 have aa:hQ (aJ g.tree (l.take (k+1))=ia Q t ep):=O (by rw[Qa];exact if_neg s);have a4:=O (ad s);clear s
 go_wp2_with fail
 refine(NF Q (hH p m c) t ep y2 W T6 HI a4).mono ?_;rintro e y3 ⟨M,rfl,C,a⟩;have D:=O C;clear C b0 b1 b2 t0;have v:=Z B a;have PL:=Z V a;have O8:=ac X a;clear B V W X x;clear a;obtain⟨F,H,K,rfl⟩:=iO D
 go_wp2_with (refine qK rfl λ_ y=>jK 52 _ _ rfl (d+1+1) #[hH F H K] rfl rfl 52 _ v.out nG ag (by simp[pr]) (y _ _ ?_))
 exact⟨⟨k+1,F,H,K,by go_num,by omega,O (jL _ _ _ _ _ _ v.out),O ((jJ _ _ _ _ Y).trans PL),O (by rw[aa];exact D.setRow v),O (jM O8.out (by rw[P];omega) _)⟩,by simp only[ji];omega⟩
section
open Go.Shelf
def Tryzx.laysM_ren:Go.Shelf.Ren:=⟨fun|6=>62|15=>130|14=>129|28=>177|29=>178|20=>169|21=>170|22=>171|23=>172|24=>173|25=>174|26=>175|27=>176|46=>208|47=>209|48=>210|49=>211|50=>212|57=>238|n=>n,fun|22=>49|24=>68|25=>127|3=>3|39=>212|0=>0|53=>267|55=>148|4=>4|46=>261|45=>260|50=>101|5=>5|9=>9|66=>294|70=>297|76=>322|77=>323|n=>n,fun|n=>n⟩
theorem Tryzx.laysM:Go.Proofs.SlLaysF0.n6 ih Tryzx.laysM_ren:={
 mixed:=by kernel_rfl
 f6:=⟨Tryz.f62.name,by decide,func62.trans (congrArg T ae)⟩
 f14:=⟨Tryz.f129.name,by decide,func129.trans (congrArg T ae)⟩
 f15:=func130.trans (congrArg T ae)
 f20:=⟨Tryz.f169.name,by decide,func169.trans (congrArg T ae)⟩
 f21:=⟨Tryz.f170.name,by decide,func170.trans (congrArg T ae)⟩
 f22:=⟨Tryz.f171.name,by decide,func171.trans (congrArg T ae)⟩
 f23:=⟨Tryz.f172.name,by decide,func172.trans (congrArg T ae)⟩
 f24:=⟨Tryz.f173.name,by decide,func173.trans (congrArg T ae)⟩
 f25:=⟨Tryz.f174.name,by decide,func174.trans (congrArg T ae)⟩
 f26:=⟨Tryz.f175.name,by decide,func175.trans (congrArg T ae)⟩
 f27:=⟨Tryz.f176.name,by decide,func176.trans (congrArg T ae)⟩
 f28:=func177.trans (congrArg T ae)
 f29:=func178.trans (congrArg T ae)
 f46:=⟨Tryz.f208.name,by decide,func208.trans (congrArg T ae)⟩
 f47:=func209.trans (congrArg T ae)
 f48:=func210.trans (congrArg T ae)
 f49:=⟨Tryz.f211.name,by decide,func211.trans (congrArg T ae)⟩
 f50:=⟨Tryz.f212.name,by decide,func212.trans (congrArg T ae)⟩
 f57:=⟨Tryz.f238.name,by decide,func238.trans (congrArg T ae)⟩
 t0:=underlying0
 a0:=Tryz.isAgg0
 z0:=Tryz.sizeOf0
 v0:=Tryz.zeroValue0
 t3:=jF
 a3:=Tryz.isAgg3
 z3:=Tryz.sizeOf3
 v3:=Tryz.zeroValue3
 t4:=lw
 a4:=Tryz.isAgg4
 z4:=Tryz.sizeOf4
 v4:=Tryz.zeroValue4
 t5:=qJ
 a5:=Tryz.isAgg5
 z5:=Tryz.sizeOf5
 v5:=Tryz.zeroValue5
 t9:=underlying9
 a9:=Tryz.isAgg9
 z9:=Tryz.sizeOf9
 v9:=Tryz.zeroValue9
 t22:=underlying49
 a22:=Tryz.isAgg49
 z22:=Tryz.sizeOf49
 v22:=Tryz.zeroValue49
 t25:=underlying127
 a25:=Tryz.isAgg127
 z25:=Tryz.sizeOf127
 v25:=Tryz.zeroValue127
 t39:=underlying212
 a39:=Tryz.isAgg212
 z39:=Tryz.sizeOf212
 v39:=Tryz.zeroValue212
 t45:=underlying260
 a45:=Tryz.isAgg260
 z45:=Tryz.sizeOf260
 v45:=Tryz.zeroValue260
 t46:=underlying261
 a46:=Tryz.isAgg261
 z46:=Tryz.sizeOf261
 v46:=Tryz.zeroValue261
 t50:=underlying101
 a50:=Tryz.isAgg101
 z50:=Tryz.sizeOf101
 v50:=Tryz.zeroValue101
 t53:=underlying267
 a53:=Tryz.isAgg267
 z53:=Tryz.sizeOf267
 v53:=Tryz.zeroValue267
 t55:=underlying148
 a55:=Tryz.isAgg148
 z55:=Tryz.sizeOf148
 v55:=Tryz.zeroValue148
 t66:=underlying294
 a66:=Tryz.isAgg294
 z66:=Tryz.sizeOf294
 v66:=Tryz.zeroValue294
 t70:=underlying297
 a70:=Tryz.isAgg297
 z70:=Tryz.sizeOf297
 v70:=Tryz.zeroValue297
 t76:=underlying322
 a76:=Tryz.isAgg322
 z76:=Tryz.sizeOf322
 v76:=Tryz.zeroValue322
 t77:=underlying323
 a77:=Tryz.isAgg323
 z77:=Tryz.sizeOf323
 v77:=Tryz.zeroValue323}
theorem Tryzx.sortFunc_noneM(p:Option jp)(a:Nat)(b:hZ)(w:hU):
 ja ih 62 #[hH p 0 a,b] w λe w'=>e=jb (jl #[])/\w'=w:=AnyF.slices_SortFunc_none Tryzx.laysM p a b w
def Tryzx.laysC_ren:Go.Shelf.Ren:=⟨fun|6=>109|15=>130|14=>158|28=>177|29=>178|20=>196|21=>197|22=>198|23=>199|24=>200|25=>201|26=>202|27=>203|46=>226|47=>209|48=>210|49=>227|50=>228|57=>241|n=>n,fun|22=>24|24=>59|25=>195|3=>3|39=>212|0=>0|53=>267|55=>148|4=>4|46=>261|45=>260|50=>101|5=>5|9=>9|66=>294|70=>297|76=>322|77=>323|n=>n,fun|n=>n⟩
theorem Tryzx.laysC:Go.Proofs.SlLaysF0.n6 ih Tryzx.laysC_ren:={
 mixed:=by kernel_rfl
 f6:=⟨Tryz.f109.name,by decide,func109.trans (congrArg T ae)⟩
 f14:=⟨Tryz.f158.name,by decide,func158.trans (congrArg T ae)⟩
 f15:=func130.trans (congrArg T ae)
 f20:=⟨Tryz.f196.name,by decide,func196.trans (congrArg T ae)⟩
 f21:=⟨Tryz.f197.name,by decide,func197.trans (congrArg T ae)⟩
 f22:=⟨Tryz.f198.name,by decide,func198.trans (congrArg T ae)⟩
 f23:=⟨Tryz.f199.name,by decide,func199.trans (congrArg T ae)⟩
 f24:=⟨Tryz.f200.name,by decide,func200.trans (congrArg T ae)⟩
 f25:=⟨Tryz.f201.name,by decide,func201.trans (congrArg T ae)⟩
 f26:=⟨Tryz.f202.name,by decide,func202.trans (congrArg T ae)⟩
 f27:=⟨Tryz.f203.name,by decide,func203.trans (congrArg T ae)⟩
 f28:=func177.trans (congrArg T ae)
 f29:=func178.trans (congrArg T ae)
 f46:=⟨Tryz.f226.name,by decide,func226.trans (congrArg T ae)⟩
 f47:=func209.trans (congrArg T ae)
 f48:=func210.trans (congrArg T ae)
 f49:=⟨Tryz.f227.name,by decide,func227.trans (congrArg T ae)⟩
 f50:=⟨Tryz.f228.name,by decide,func228.trans (congrArg T ae)⟩
 f57:=⟨Tryz.f241.name,by decide,func241.trans (congrArg T ae)⟩
 t0:=underlying0
 a0:=Tryz.isAgg0
 z0:=Tryz.sizeOf0
 v0:=Tryz.zeroValue0
 t3:=jF
 a3:=Tryz.isAgg3
 z3:=Tryz.sizeOf3
 v3:=Tryz.zeroValue3
 t4:=lw
 a4:=Tryz.isAgg4
 z4:=Tryz.sizeOf4
 v4:=Tryz.zeroValue4
 t5:=qJ
 a5:=Tryz.isAgg5
 z5:=Tryz.sizeOf5
 v5:=Tryz.zeroValue5
 t9:=underlying9
 a9:=Tryz.isAgg9
 z9:=Tryz.sizeOf9
 v9:=Tryz.zeroValue9
 t22:=underlying24
 a22:=Tryz.isAgg24
 z22:=Tryz.sizeOf24
 v22:=Tryz.zeroValue24
 t25:=underlying195
 a25:=Tryz.isAgg195
 z25:=Tryz.sizeOf195
 v25:=Tryz.zeroValue195
 t39:=underlying212
 a39:=Tryz.isAgg212
 z39:=Tryz.sizeOf212
 v39:=Tryz.zeroValue212
 t45:=underlying260
 a45:=Tryz.isAgg260
 z45:=Tryz.sizeOf260
 v45:=Tryz.zeroValue260
 t46:=underlying261
 a46:=Tryz.isAgg261
 z46:=Tryz.sizeOf261
 v46:=Tryz.zeroValue261
 t50:=underlying101
 a50:=Tryz.isAgg101
 z50:=Tryz.sizeOf101
 v50:=Tryz.zeroValue101
 t53:=underlying267
 a53:=Tryz.isAgg267
 z53:=Tryz.sizeOf267
 v53:=Tryz.zeroValue267
 t55:=underlying148
 a55:=Tryz.isAgg148
 z55:=Tryz.sizeOf148
 v55:=Tryz.zeroValue148
 t66:=underlying294
 a66:=Tryz.isAgg294
 z66:=Tryz.sizeOf294
 v66:=Tryz.zeroValue294
 t70:=underlying297
 a70:=Tryz.isAgg297
 z70:=Tryz.sizeOf297
 v70:=Tryz.zeroValue297
 t76:=underlying322
 a76:=Tryz.isAgg322
 z76:=Tryz.sizeOf322
 v76:=Tryz.zeroValue322
 t77:=underlying323
 a77:=Tryz.isAgg323
 z77:=Tryz.sizeOf323
 v77:=Tryz.zeroValue323}
theorem Tryzx.sortFunc_noneC(p:Option jp)(a:Nat)(b:hZ)(w:hU):
 ja ih 109 #[hH p 0 a,b] w λe w'=>e=jb (jl #[])/\w'=w:=AnyF.slices_SortFunc_none Tryzx.laysC p a b w
end
section
open Go.RowKit Go.Maps Go.Sort Go.Shelf
section
variable {α:Type} {E:EK α}
theorem H7{l:List α}[Inhabited {x//x∈l}](t:Nat)(d:t<l.length*E.k):(E.flat l)[t]?=T ((E.cells (l.attach.toArray[t/E.k]!).1)[t%E.k]!):=by
 have b:t/E.k<l.length:=qV (by rw[kl];exact d);have a:t%E.k<E.k:=qx _ E.pos;have h:=E.flat_get l (t/E.k) (t%E.k) l[t/E.k] (jD b) a;rw[show t/E.k*E.k+t%E.k=t by rw[kl];exact qy t E.k]at h;have e:(l.attach.toArray[t/E.k]!).1=l[t/E.k]:=by rw[getElem!_pos l.attach.toArray _ (by simpa using b)];simp
 rw[h,e];have c:=E.len l[t/E.k];rw[jD (by rw[c];exact a),getElem!_pos _ _ (by rw[c];exact a)]
theorem cI.holds{j:Nat}{w W:hU}{g n c:Nat}{l:List α}[Inhabited {x//x∈l}](h:cI E j w W g n c l):HoldsK (λx:{x//x∈l}=>E.cells x.1) E.k W g 0 l.attach.toArray:=by
 obtain⟨p,k⟩:=h.own
 rcases k with⟨b,_⟩|⟨q,r,s,b,u,e,v,y,z,m⟩
 ·cases b
 injection b with a B o
 injection a with a
 injection a with a
 subst a;subst o;intro t d;rw[size_flatK]at d;have f:t<l.length*E.k:=by simpa using d
 have i:=H7 (E:=E) t f;rw[get_flatK _ _ _ _ d];refine⟨?_,by simp[qz,e]⟩;rw[Nat.zero_add,j7,e];rw[<-m,qW (by rw[h.len];exact f)]at i
 simpa using i
theorem DY{l:List α}[Inhabited {x//x∈l}]{W:hU}{g n c:Nat}{d:List {x//x∈l}}(h:HoldsK (λx:{x//x∈l}=>E.cells x.1) E.k W g 0 d.toArray)(p:n=(d.map Subtype.val).length)(q:n<=c):E.At W (hH (T ⟨g,0,hF⟩) n c) (d.map Subtype.val):=by
 refine⟨E.flat_length _,T ⟨g,0,hF⟩,c,by rw[p],by omega,(λe=>by cases e),λ_=>⟨g,0,rfl,λj r k=>?_⟩⟩;have b:=(jY.1 k).1;rw[E.flat_length,jc]at b;have f:=(h j (by rw[size_flatK];simpa using b)).1;rw[get_flatK _ _ _ _ (by simpa using b)]at f;have m:j/E.k<d.length:=qV (by rw[kl];exact b);have i:j%E.k<E.k:=qx _ E.pos;have a:=E.flat_get (d.map Subtype.val) (j/E.k) (j%E.k) (d[j/E.k]).1 (by rw[ju,jD m];rfl) i;rw[show j/E.k*E.k+j%E.k=j by rw[kl];exact qy j E.k,k]at a;have e:d.toArray[j/E.k]! =d[j/E.k]:=by rw[getElem!_pos d.toArray _ (by simpa using m)];simp
 rw[e]at f;have o:=E.len (d[j/E.k]).1;rw[jD (by rw[o];exact i)]at a;injection a with a
 rw[getElem!_pos _ _ (by rw[o];exact i),<-a]at f;exact f
theorem Dk{β:Type}[Inhabited β]{enc:β->List hZ}{k a:Nat}{w:hU}{g n:Nat}{d:Array β}{os:Array Obj}(b:a<=g)(c:a<=w.heap.size):ic a w (sortWorldK enc k w g 0 n d os):=by
 unfold sortWorldK putRowK putRow mapBlock Go.Sort.ahead Go.Sort.grow;refine⟨rfl,rfl,rfl,by simp,λk hk=>?_⟩;simp only;rw[Array.getElem?_append_left (by simp;omega),qA,if_neg Y]
theorem Ck{β:Type}(f:β->Int):SWO (ltOf λx y:β=>co (f x) (f y)) where
 irrefl x:=by simp[ltOf,co]
 trans x y z h1 h2:=by
  simp only[ltOf,decide_eq_true_eq]at*;unfold co at*
  by_cases a:f x<f y
  ·by_cases b:f y<f z
   ·rw[if_pos Y];decide
   rw[if_neg b]at h2;split at h2<;>omega
  rw[if_neg a]at h1;split at h1<;>omega
 ntrans x y z h1 h2:=by
  simp only[ltOf,decide_eq_false_iff_not]at*;unfold co at*
  by_cases a:f x<f z
  ·exfalso
   by_cases b:f x<f y
   ·rw[if_pos b]at h1;exact h1 G
   by_cases c:f y<f z
   ·rw[if_pos c]at h2;exact h2 G
   omega
  rw[if_neg a];split<;>omega
theorem Di(x y:Int):(!(decide (co y x<0)))=decide (x<=y):=by
 unfold co
 by_cases h:y<x
 ·rw[if_pos h];simp;omega
 rw[if_neg h];split<;>simp<;>omega
theorem zN{f:α->Int}:∀{l:List α},(l.map f).Nodup->∀x∈l,∀y∈l,f x=f y->x=y
 |[],_,x,g,_,_,_=>by cases g
 |a::l,d,x,g,y,h,e=>by
  rw[pz,qX]at d
  rcases jm.1 g with c|c
  ·rcases jm.1 h with b|b
   ·rw[c,b]
   exact absurd (jf.2 ⟨y,b,by rw[<-e,c]⟩) d.1
  rcases jm.1 h with b|b
  ·exact absurd (jf.2 ⟨x,c,by rw[e,b]⟩) d.1
  exact zN d.2 x c y b e
theorem DO(w:hU)(a b:Obj):(w.alloc a).alloc b=grow (w.drewN 0) #[a,b]:=by
 show({({w with heap:=w.heap.push a}:hU)with heap:=(w.heap.push a).push b}:hU)={w with heap:=w.heap++ #[a,b]}
 congr 1
theorem yL{l:List α}{f:α->Int}(g:(l.map f).Nodup){x y:α}(h:x∈l)(i:y∈l)(c:decide (co (f x) (f y)<0)=false)(d:decide (co (f y) (f x)<0)=false):x=y:=by
 have e:f x=f y:=by
  simp only[decide_eq_false_iff_not]at c d;unfold co at c d
  by_cases a:f x<f y
  ·rw[if_pos a]at c;exact absurd G c
  by_cases b:f y<f x
  ·rw[if_pos b]at d;exact absurd G d
  omega
 exact zN g x h y i e
end
theorem K8(x y:Mem)(w:hU):
 ja ih 63 #[ii (EM.cells x).toArray,ii (EM.cells y).toArray] w λe w'=>e=jb (I N (co x.dev y.dev))/\∃q os,w'=grow (w.drewN q) os:=by
 obtain⟨a,c,d⟩:=x;obtain⟨b,f,g⟩:=y;show ja ih 63 #[ii #[I N a,I N c,I N d],ii #[I N b,I N f,I N g]] w λe w'=>e=jb (I N (co a b))/\∃q os,w'=grow (w.drewN q) os
 have h:=O (yb a b);have i:hQ (∃q os,(w.alloc (hK #[I N a,I N c,I N d] 68)).alloc (hK #[I N b,I N f,I N g] 68)=grow (w.drewN q) os):=O ⟨0,#[hK #[I N a,I N c,I N d] 68,hK #[I N b,I N f,I N g] 68],DO _ _ _⟩
 go_enter func63,ntmps63
 go_wp2_with fail
 refine(h _).mono ?_;rintro e j ⟨rfl,rfl⟩
 go_wp2_with fail
 go_ret;exact⟨rfl,i⟩
def gD(l:List Mem):List Mem:=l.mergeSort λx y=>decide (x.dev<=y.dev)
theorem Fi(l:List Mem)(k:(l.map Mem.dev).Nodup)(d g n c:Nat)(w W:hU)(h:cI EM d w W g n c l)(p:n<=1000000):
 ja ih 62 #[hH (T ⟨g,0,hF⟩) n c,.func (.func 63) #[] #[]] W λe w'=>e=jb (jl #[])/\EM.At w' (hH (T ⟨g,0,hF⟩) n c) (gD l)/\ic d W w':=by
 rcases qB n with i|i
 ·subst i
  obtain rfl:l=[]:=ow h.len.symm;refine(Tryzx.sortFunc_noneM _ c _ W).mono ?_;rintro e w' ⟨rfl,rfl⟩;have e:gD []=[]:=by unfold gD;simp
  rw[e];exact⟨rfl,h.at,jt _ _⟩
 have j:l≠[]:=λe=>by have:=h.len;rw[e]at this;simp at this;omega
 haveI:Inhabited {x//x∈l}:=⟨⟨l.head j,List.head_mem j⟩⟩
 have hk:=AnyQ.slices_SortFunc_total (α:={x//x∈l}) Tryzx.laysM 3 Tryz.isAgg68 Tryz.sizeOf68 (λx=>EM.cells x.1) (λ_=>rfl) (λx v a=>EM.one x.1 v a) (λx y=>co x.1.dev y.1.dev) (Ck (λx:{x//x∈l}=>x.1.dev)) 63 #[] g 0 c l.attach.toArray W
  (enters_of func63 ae rfl) (λ_ _ _ _ x y=>K8 x.1 y.1 _) (h.holds) h.lt.2 (by rw[jr,j1,<-h.len];omega) (λx y a b=>Subtype.ext (yL k x.2 y.2 a b))
 rw[jr,j1,<-h.len]at hk;refine hk.mono ?_;rintro e w' ⟨rfl,m,os,rfl⟩;have o:((l.attach.mergeSort λx y=> !ltOf (λx y:{x//x∈l}=>co x.1.dev y.1.dev) y x).map Subtype.val)=gD l:=by
  refine(qY (r:=λx y:{x//x∈l}=> !ltOf (λx y:{x//x∈l}=>co x.1.dev y.1.dev) y x) (s:=λx y:Mem=>decide (x.dev<=y.dev)) (f:=Subtype.val) (λa _ b _=>Di _ _)).trans ?_;rw[qZ]
  rfl
 have a:=holdsK_sortWorldK (λx:{x//x∈l}=>EM.cells x.1) 3 W g 0 m l.attach.toArray (l.attach.mergeSort λx y=> !ltOf (λx y:{x//x∈l}=>co x.1.dev y.1.dev) y x).toArray os h.lt.2 h.holds (by simp[(jO _ _).length_eq]);refine⟨rfl,?_,Dk h.lt.1 (a8 h.lt)⟩;rw[<-o];exact DY (E:=EM) a (by rw[jc,(jO _ _).length_eq,j1];exact h.len) h.cap
theorem J7(x y:Chg)(w:hU):
 ja ih 110 #[ii (EC.cells x).toArray,ii (EC.cells y).toArray] w λe w'=>e=jb (I N (co x.d y.d))/\∃q os,w'=grow (w.drewN q) os:=by
 obtain⟨c,a,d,f,g⟩:=x;obtain⟨h,b,i,j,k⟩:=y;show ja ih 110 #[ii #[I N c,I N a,I N d,I N f,I N g],ii #[I N h,I N b,I N i,I N j,I N k]] w λe w'=>e=jb (I N (co a b))/\∃q os,w'=grow (w.drewN q) os
 have l:=O (yb a b);have m:hQ (∃q os,(w.alloc (hK #[I N c,I N a,I N d,I N f,I N g] 59)).alloc (hK #[I N h,I N b,I N i,I N j,I N k] 59)=grow (w.drewN q) os):=O ⟨0,#[hK #[I N c,I N a,I N d,I N f,I N g] 59,hK #[I N h,I N b,I N i,I N j,I N k] 59],DO _ _ _⟩
 go_enter func110,ntmps110
 go_wp2_with fail
 refine(l _).mono ?_;rintro e n ⟨rfl,rfl⟩
 go_wp2_with fail
 go_ret;exact⟨rfl,m⟩
theorem Ny(l:List Chg)(k:(l.map Chg.d).Nodup)(d g n c:Nat)(w W:hU)(h:cI EC d w W g n c l)(p:n<=1000000):
 ja ih 109 #[hH (T ⟨g,0,hF⟩) n c,.func (.func 110) #[] #[]] W λe w'=>e=jb (jl #[])/\EC.At w' (hH (T ⟨g,0,hF⟩) n c) (eV l)/\ic d W w':=by
 rcases qB n with i|i
 ·subst i
  obtain rfl:l=[]:=ow h.len.symm;refine(Tryzx.sortFunc_noneC _ c _ W).mono ?_;rintro e w' ⟨rfl,rfl⟩;have e:eV []=[]:=by unfold eV;simp
  rw[e];exact⟨rfl,h.at,jt _ _⟩
 have j:l≠[]:=λe=>by have:=h.len;rw[e]at this;simp at this;omega
 haveI:Inhabited {x//x∈l}:=⟨⟨l.head j,List.head_mem j⟩⟩
 have hk:=AnyQ.slices_SortFunc_total (α:={x//x∈l}) Tryzx.laysC 5 Tryz.isAgg59 Tryz.sizeOf59 (λx=>EC.cells x.1) (λ_=>rfl) (λx v a=>EC.one x.1 v a) (λx y=>co x.1.d y.1.d) (Ck (λx:{x//x∈l}=>x.1.d)) 110 #[] g 0 c l.attach.toArray W
  (enters_of func110 ae rfl) (λ_ _ _ _ x y=>J7 x.1 y.1 _) (h.holds) h.lt.2 (by rw[jr,j1,<-h.len];omega) (λx y a b=>Subtype.ext (yL k x.2 y.2 a b))
 rw[jr,j1,<-h.len]at hk;refine hk.mono ?_;rintro e w' ⟨rfl,m,os,rfl⟩;have o:((l.attach.mergeSort λx y=> !ltOf (λx y:{x//x∈l}=>co x.1.d y.1.d) y x).map Subtype.val)=eV l:=by
  refine(qY (r:=λx y:{x//x∈l}=> !ltOf (λx y:{x//x∈l}=>co x.1.d y.1.d) y x) (s:=λx y:Chg=>decide (x.d<=y.d)) (f:=Subtype.val) (λa _ b _=>Di _ _)).trans ?_;rw[qZ]
  rfl
 have a:=holdsK_sortWorldK (λx:{x//x∈l}=>EC.cells x.1) 5 W g 0 m l.attach.toArray (l.attach.mergeSort λx y=> !ltOf (λx y:{x//x∈l}=>co x.1.d y.1.d) y x).toArray os h.lt.2 h.holds (by simp[(jO _ _).length_eq]);refine⟨rfl,?_,Dk h.lt.1 (a8 h.lt)⟩;rw[<-o];exact DY (E:=EC) a (by rw[jc,(jO _ _).length_eq,j1];exact h.len) h.cap
end
theorem tg{α:Type}{E:EK α}{a:Nat}{w:hU}{v:hZ}{l:List α}(h:w.ownsRow a E.t E.k v l.length (E.flat l))(e:a<=w.heap.size):(v=hH hF 0 0/\l=[])\/∃g c,v=hH (T ⟨g,0,hF⟩) l.length c/\cI E a w w g l.length c l:=by
 have f:=h
 rcases h.2 with⟨rfl,b⟩|⟨g,i,k,rfl,m,n,o,p,q,r⟩
 ·refine .inl ⟨rfl,ow ?_⟩
  first
   |exact b
   |(have d:=h.1;rw[b]at d;exact(qB l.length).elim id λj=>by have:=Nat.mul_pos j E.pos;simp at d;omega)
 exact .inr ⟨g,i,rfl,f,rfl,jt _ _,e⟩
theorem FT{a:Nat}{b:Array hZ}{c:Nat}{d:hU->Prop}{p:Mem->Bool}(f:fz EM a b c d p)(w:hU)(g:d w)(i:c<=w.heap.size):
 ja ih 60 #[hH hF 0 0,.func (.func a) #[] b] w λe w'=>e=jb (hH hF 0 0)/\ic w w w':=by
 have h:=O (vJ f [] (hH hF 0 0) w EK.At.nil g i av);clear f g
 go_enter func60,ntmps60
 go_wp2_with fail
 refine(h).mono ?_;rintro e l ⟨r,rfl,g,f⟩;have j:=O f;clear f h
 rcases g with⟨rfl,-⟩|⟨k,e,-,he,-⟩
 ·go_wp2_with fail
  go_ret;exact⟨rfl,j⟩
 simp at he
theorem FA{f:Nat}{i:Array hZ}{a:Nat}{j:hU->Prop}{p:Mem->Bool}(k:fz EM f i a j p)(l:List Mem)(v:hZ)(w:hU)(h:w.ownsRow a EM.t EM.k v l.length (EM.flat l))(m:j w)(b:a<=w.heap.size)(o:l.length<=1000000):
 ja ih 60 #[v,.func (.func f) #[] i] w λe w'=>∃n,e=jb n/\w'.ownsRow a EM.t EM.k n (l.filter λx=> !p x).length (EM.flat (l.filter λx=> !p x))/\ic a w w':=by
 rcases tg h b with⟨rfl,rfl⟩|⟨g,c,rfl,q⟩
 ·refine(FT k w m b).mono ?_
  rintro e w' ⟨rfl,d⟩;exact⟨_,rfl,jS _ _ _ _,d.mono b⟩
 refine(JA k l g l.length c w q m o).mono ?_;rintro e w' ⟨n',rfl,d⟩;have r:=d.len;subst r;exact⟨_,rfl,d.own,d.bel⟩
theorem Fo(l:List Mem)(b:(l.map Mem.dev).Nodup)(a:Nat)(v:hZ)(w:hU)(h:w.ownsRow a EM.t EM.k v l.length (EM.flat l))(d:a<=w.heap.size)(f:l.length<=1000000):
 ja ih 62 #[v,.func (.func 63) #[] #[]] w λe w'=>e=jb (jl #[])/\EM.At w' v (gD l)/\ic a w w':=by
 rcases tg h d with⟨rfl,rfl⟩|⟨g,c,rfl,i⟩
 ·refine(Tryzx.sortFunc_noneM hF 0 _ w).mono ?_
  rintro e w' ⟨rfl,rfl⟩;have e:gD []=[]:=by unfold gD;simp
  rw[e];exact⟨rfl,EK.At.nil,jt _ _⟩
 exact Fi l b a g l.length c w w i f
theorem Hn{a:Nat}{b:Array hZ}{c:Nat}{d:hU->Prop}{p:Chg->Bool}(f:fz EC a b c d p)(w:hU)(g:d w)(i:c<=w.heap.size):
 ja ih 107 #[hH hF 0 0,.func (.func a) #[] b] w λe w'=>e=jb (hH hF 0 0)/\ic w w w':=by
 have h:=O (wQ f [] (hH hF 0 0) w EK.At.nil g i av);clear f g
 go_enter func107,ntmps107
 go_wp2_with fail
 refine(h).mono ?_;rintro e l ⟨r,rfl,g,f⟩;have j:=O f;clear f h
 rcases g with⟨rfl,-⟩|⟨k,e,-,he,-⟩
 ·go_wp2_with fail
  go_ret;exact⟨rfl,j⟩
 simp at he
theorem MY{f:Nat}{i:Array hZ}{a:Nat}{j:hU->Prop}{p:Chg->Bool}(k:fz EC f i a j p)(l:List Chg)(v:hZ)(w:hU)(h:w.ownsRow a EC.t EC.k v l.length (EC.flat l))(m:j w)(b:a<=w.heap.size)(o:l.length<=1000000):
 ja ih 107 #[v,.func (.func f) #[] i] w λe w'=>∃n,e=jb n/\w'.ownsRow a EC.t EC.k n (l.filter λx=> !p x).length (EC.flat (l.filter λx=> !p x))/\ic a w w':=by
 rcases tg h b with⟨rfl,rfl⟩|⟨g,c,rfl,q⟩
 ·refine(Hn k w m b).mono ?_
  rintro e w' ⟨rfl,d⟩;exact⟨_,rfl,jS _ _ _ _,d.mono b⟩
 refine(IB k l g l.length c w q m o).mono ?_;rintro e w' ⟨n',rfl,d⟩;have r:=d.len;subst r;exact⟨_,rfl,d.own,d.bel⟩
theorem I6(l:List Chg)(b:(l.map Chg.d).Nodup)(a:Nat)(v:hZ)(w:hU)(h:w.ownsRow a EC.t EC.k v l.length (EC.flat l))(d:a<=w.heap.size)(f:l.length<=1000000):
 ja ih 109 #[v,.func (.func 110) #[] #[]] w λe w'=>e=jb (jl #[])/\EC.At w' v (eV l)/\ic a w w':=by
 rcases tg h d with⟨rfl,rfl⟩|⟨g,c,rfl,i⟩
 ·refine(Tryzx.sortFunc_noneC hF 0 _ w).mono ?_
  rintro e w' ⟨rfl,rfl⟩;have e:eV []=[]:=by unfold eV;simp
  rw[e];exact⟨rfl,EK.At.nil,jt _ _⟩
 exact Ny l b a g l.length c w w i f
theorem uY(a:Int)(l:List Chg)(v:hZ)(w:hU)(h:EC.At w v l)(r:(l.map Chg.d).Nodup)(k:l.length<=1000000):
 ja ih 46 #[I N a,v] w λe w'=>∃d,e=jb d/\EC.At w' d (di a l)/\ic w w w':=by
 obtain⟨p,c,rfl,-,-⟩:=h.form;have f:=af w (hK #[I N a] 3);have g:=Boxed.new w 3 (I N a);obtain⟨n,s⟩:=J l.length;have i:=h.below f;obtain⟨j,m⟩:=J (w.alloc (hK #[I N a] 3));obtain⟨b,o⟩:=J w.heap.size;rw[<-m]at f g i;rw[<-o]at g;rw[<-s]at i⊢;have t:=O (El l _ j i k);have y:=O m;have z:=O o;have q:=O g;have u:=O f;have x:=O k;have B:=O r;clear h f g s i m o k r
 go_enter func46,ntmps46
 go_upto_region 1 with fail
 rw[<-y,<-z]
 go_wp2_with fail
 refine(t).mono ?_;rintro e h ⟨d,rfl,i,f⟩;have k:=O i;have m:hQ (jj h b 3 (I N a)):=Z q f;have o:=O f;have g:=O f.size;have C:hQ (b<j.heap.size):=O q.lt;clear i f t q
 go_wp2_with fail
 refine(MY (NC a b j.heap.size C) l d h k m g x).mono ?_;rintro e t ⟨D,rfl,i,f⟩;have q:=O i;have r:=O (o.trans f);have s:=O (jh g f.size);clear i f k m o g
 go_wp2_with fail
 refine(I6 _ (B.sublist (p6.map _)) j.heap.size D t q s (jh (qt _ _) x)).mono ?_;rintro e m ⟨rfl,f,g⟩;have i:=O f;have k:=O (u.trans ((r.trans g).mono u.size));clear f g q r s
 go_wp2_with fail
 go_ret;exact⟨_,rfl,i,k⟩
section
attribute [local go_sem] Oper.semAt_some
theorem Cb(t:List (Int×Int))(x:Int):(dQ t x).length<=1023:=by
 unfold dQ
 split
 ·rename_i h
  have a:1<=x/\x<=1023:=by
   unfold iL at h
   split at h
   ·split at h
    ·cases h
    omega
   exact absurd h (by assumption)
  have b:=oV (ofF t) (hgt x.toNat) x.toNat;have c:=(sM (n:=x.toNat) Y Y).2;have d:1*2^hgt x.toNat<=x.toNat*2^hgt x.toNat:=jP _ Y;omega
 simp
theorem Nu(t:List (Int×Int)):∀(l:List Int) (x:Int) (k:Nat),eu t (l++[x]) k=eu t l k++(dQ t x).map λn=>(((k+l.length:Nat):Int),n):=by
 intro l
 induction l with
 |nil=>intro x k;simp[eu]
 |cons y l a=>
  intro x k;have h:=a x (k+1);unfold eu at h⊢;rw[qa,j3,qb,j3,qb,h,qc];simp only[jn];rw[show k+1+l.length=k+(l.length+1) by omega]
theorem zb(t:List (Int×Int)):∀(l:List Int) (k:Nat),(eu t l k).length<=1023*l.length:=by
 intro l
 induction l with
 |nil=>intro k;simp[eu]
 |cons y l a=>
  intro k;have h:=a (k+1);unfold eu at h⊢;rw[j3,qb,jk,jc,jn];have b:(dQ t (y,k).1).length<=1023:=Cb t y;omega
theorem wA{a:Int}(b:0<=a)(c:a<512):(gu a).length=9:=by
 unfold gu lI;rw[jc,jc,rN _ Y]
theorem aT.but{w w':hU}{v:hZ}{t:List (Int×Int)}{d:Nat}{p:Option jp}{n c:Nat}{l:jo}{fr:Nat×Nat}(h:aT w v t)(m:w.heap[d]?=T (hK #[hH p n c] l fr))(hk:∀k,k<w.heap.size->k≠d->w'.heap[k]?=w.heap[k]?):aT w' v t:=by
 have f:∀(g o:Nat) (x:Int),w.cell? ⟨g,o,hF⟩=T (I N x)->w'.cell? ⟨g,o,hF⟩=T (I N x):=λg o x b=>by
  by_cases e:g=d
  ·subst e
   exfalso
   unfold j7 at b;rw[m]at b
   rcases o with _ |o<;>simp at b
  rw[<-b];exact bz (a:=⟨g,o,hF⟩) (hk g (eN b) e)
 obtain⟨p,c,q,r,s,u,y⟩:=h;refine⟨p,c,q,r,s,λz=>?_,y⟩;obtain⟨g,o,e,i⟩:=u z;exact⟨g,o,e,λj k=>⟨f _ _ _ (i j k).1,f _ _ _ (i j k).2⟩⟩
structure kg(w:hU)(a:Nat)(Ψ:Nat->Prop)(wr:hU):Prop where
 lt:∀k,Ψ k->k<wr.heap.size
 old:∀k,a<=k->k≠a->k<w.heap.size->Ψ k
 kept:∀k,k<w.heap.size->k≠a->wr.heap[k]?=w.heap[k]?
 not:¬Ψ a
 sz:w.heap.size<=wr.heap.size
def mx(Ψ:Nat->Prop)(a b:hU)(k:Nat):Prop:=Ψ k\/(a.heap.size<=k/\k<b.heap.size)
theorem kg.more{w a b:hU}{c:Nat}{Ψ:Nat->Prop}(h:kg w c Ψ a)(e:c<w.heap.size)(d:ic a a b):kg w c (mx Ψ a b) b where
 lt k hk:=by rcases hk with hk|hk;exact jz (h.lt k hk) d.size;exact hk.2
 old k h1 h2 h3:=.inl (h.old k h1 h2 h3)
 kept k h1 h2:=(d.block k (jz h1 h.sz)).trans (h.kept k h1 h2)
 not hk:=by rcases hk with hk|hk;exact h.not hk;have:=h.sz;omega
 sz:=jh h.sz d.size
theorem kg.yield{w a b:hU}{c:Nat}{Ψ:Nat->Prop}(h:kg w c Ψ a)(d:ic c a b)(hk:∀k,Ψ k->b.heap[k]?=a.heap[k]?):kg w c Ψ b where
 lt k h1:=jz (h.lt k h1) d.size
 old:=h.old
 kept k h1 h2:=by
  refine Eq.trans ?_ (h.kept k h1 h2)
  rcases j8 k c with e|e
  ·exact d.block k e
  exact hk k (h.old k e h2 h1)
 not:=h.not
 sz:=jh h.sz d.size
theorem En{β:Type}{B0:Nat}{c:β->(Nat->Prop)->hU->Prop}(h:bi B0 c){s:β}{Ψ:Nat->Prop}{a b:hU}(d:c s Ψ a)(e:ic a a b):c s (mx Ψ a b) b:=
 h s Ψ (mx Ψ a b) a b d (aZ.ofBelow e (λk hk _=>hk)) (λk hk=>.inl hk) (λk hk=>by rcases hk with hk|hk;exact .inl hk;exact .inr hk.1)
theorem ah.more{Ψ:Nat->Prop}{a b:hU}{v:hZ}{sz n:Nat}{xs:List hZ}(h:ah Ψ a v sz n xs)(c:∀k,Ψ k->k<a.heap.size)(d:ic a a b):ah (mx Ψ a b) b v sz n xs:=
 (h.keep λk hk=>d.block k (c k hk)).mono λk hk=>.inl hk
theorem ah.ofMine{Ψ:Nat->Prop}{a b:hU}{v:hZ}{sz n:Nat}{t:jo}{xs:List hZ}(h:b.ownsRow a t sz v n xs):ah (mx Ψ a b) b v sz n xs:=
 ah.of_own h λg c=>.inr (h.lt g c)
theorem Kf(t:List (Int×Int))(ad:hZ)(a:Int)(j:0<=a)(C:a<512)(w:hU)(f:Nat)(p:Option jp)(n c:Nat)(ty:jo)(m:w.heap[f]?=T (hK #[hH p n c] ty (0,0)))(y z:Nat)(o:y≠f)(B:z≠f)
 (e:jj w y 3 (I N a)) (q:w.heap[z]?=T (hK #[ad] 52 (0,0))) (s:aT w ad t) (E:t.length<=1000000):
 dI ih 133 #[jd (T ⟨y,0,hF⟩),jd (T ⟨z,0,hF⟩)] (λx:Int×Int=>#[I N x.1,I N x.2]) (λk=>f<=k/\k≠f/\k<w.heap.size) f (λxs=>xs=dF t a) (λ_=>True) (λb=>b.length<=10000) w:=by
 intro l D Jx W g x F H K;have S:=(jq.1 m).1;have u:kg w f (λk=>f<=k/\k≠f/\k<w.heap.size) W:=⟨λk hk=>jz hk.2.2 g.size,λk a b c=>⟨a,b,c⟩,λk hk _=>g.block k hk,λhk=>hk.2.1 rfl,g.size⟩;have U:=O u;have WP:=O S;have HG:=O m;have HA:=O e;have HT:=O q;have HN:=O s;have HL:=O E;have RY:=O o;have a3:=O B;have a4:=O e.lt;have SI:=O (jq.1 q).1;obtain⟨M,P,Q,rfl⟩:=iO s;have HJ:=O x;have al:=O F;have R:=O H;have V:=O K;have v:=wA j C;obtain⟨r,rfl⟩:=qo j;have h:=O (GE r Y);have X:iv (lI r)=(gu (r:Int)).map (jH .i64):=by unfold iv gu;rw[jQ];rfl
 rw[X]at h;have aa:dF t (r:Int)=eu t (gu (r:Int)) 1:=rfl;rw[aa];generalize gu (r:Int)=d at v h⊢;have RN:=O v;have ca:W.cell? ⟨y,0,hF⟩=T (I N (r:Int)):=by rw[bz (a:=⟨y,0,hF⟩) (u.kept y a4 o)];exact e.cell
 clear m e q s E o B x F H K v u S X aa j C g;refine(callsIn_wide (n:=0)).1 ?_;refine callsIn_of_wp func133 rfl trivial ?_ rfl;simp only[ntmps133,jr,jn,jE,Nat.reduceAdd,Nat.reduceSub,q4,q5,q6,q8,qC,qa]
 gi_wp2_with fail
 refine⟨trivial,rfl,(callsIn_wide.2 (h W)).mono ?_⟩;rintro e W1 ⟨v,rfl,j,g⟩;have Ro:=O (U.more WP g);have PV:=O (En HJ V g);have m:=ah.ofMine (Ψ:=λk=>f<=k/\k≠f/\k<w.heap.size) j;obtain⟨pc,cc,rfl⟩:=m.form;have PR:=O m;have a5:=g.size;generalize mx (λk=>f<=k/\k≠f/\k<w.heap.size) W W1=Ψ1 at Ro PV PR;clear j g m V U h ca
 gi_wp2_with fail
 gi_loopw [19] (λs wr=>W.heap.size<=wr.heap.size/\∃(k:Nat) (Ψ:Nat->Prop),s=I N k/\k<=9/\hQ (kg w f Ψ wr)/\hQ (D (eu t (d.take k) 1) Ψ wr)/\hQ (ah Ψ wr (hH pc 9 cc) 1 9 (d.map (jH .i64)))) (λs _=>(9-ji s).toNat)
 case atStart=>exact⟨a5,0,Ψ1,rfl,by omega,Ro,PV,PR⟩
 obtain⟨bc,k,Ψ,rfl,hk,g,E,q⟩:=hrel
 by_cases ba:k<9
 case neg=>
  obtain rfl:k=9:=Y;have S:hQ (D (eu t d 1) Ψ wr):=O (by have h:=E.out;rw[jB (by rw[RN];exact je _)]at h;exact h);clear R al E
  gi_wp2
  refine bodyPost_end (results_none rfl _ _ _) rfl ?_;exact⟨⟨_,rfl⟩,.inl ⟨_,_,rfl,S⟩⟩
 have hd:=ap ((k:Int)<9);have PX:=ap (k<9);have m:k<d.length:=by rw[RN];exact ba
 have F:=O (Nu t (d.take k) d[k] 1);have Tf:hQ (d.take (k+1)=d.take k++[d[k]]):=O (List.take_succ_eq_append_getElem m);have au:hQ ((d.take k).length=k):=O (by rw[qD];omega);obtain⟨-,_,_,U,-,-,o⟩:=q.out;injection U with V X Tn
 subst V;subst Tn;obtain⟨gc,oc,rfl,-,o⟩:=o Y;have x:=o k (I N d[k]) (by rw[ju,jD m];rfl);obtain⟨sb,u⟩:=J (d[k]);rw[<-u]at x F Tf;have c1:wr.cell? ⟨z,0,hF⟩=T (hH M P Q):=by rw[bz (a:=⟨z,0,hF⟩) (g.kept z SI a3)];exact cell_of (i:=0) HT rfl
 have aa:hQ (aT wr (hH M P Q) t):=O (HN.but HG g.kept);have a1:=O (Jf t (hH M P Q) sb wr aa HL);clear o u m X
 gi_wp2_with fail
 refine⟨trivial,rfl,(callsIn_wide.2 a1).mono ?_⟩;rintro e W2 ⟨vn,rfl,j,B⟩;have Qk:=O (g.more WP B);have QQ:=O (En HJ E B);have Px:=O (q.more g.lt B);have Qe:=ah.ofMine (Ψ:=Ψ) j;obtain⟨pn,cn,rfl⟩:=Qe.form;have H:=O Qe;have bd:=B.size;generalize mx Ψ wr W2=Ψ2 at Qk QQ Px H;have K:=O (Cb t sb);obtain⟨u,a2⟩:=J (dQ t sb);rw[<-a2]at H F K⊢;obtain⟨m,hm⟩:=J u.length;rw[<-hm]at H K⊢;have R3:=O hm;have QT:=O (zb t (d.take k) 1);obtain⟨O5,Vk⟩:=J (eu t (d.take k) 1);rw[<-Vk]at QQ F QT;have Y8:hQ (m<=1023):=K;have VU:=K.out;clear j B Qe a1 aa g E q x c1 hm a2 Vk
 gi_wp2_with fail
 gi_loopw [32] (λs B=>W.heap.size<=B.heap.size/\∃(j:Nat) (Ψ:Nat->Prop),s=I N j/\j<=m/\hQ (kg w f Ψ B)/\hQ (D (O5++(u.take j).map λn=>((k:Int)+1,n)) Ψ B)/\hQ (ah Ψ B (hH (T ⟨gc,oc,hF⟩) 9 cc) 1 9 (d.map (jH .i64)))/\hQ (ah Ψ B (hH pn m cn) 1 m (u.map (jH .i64)))) (λs _=>(m-ji s).toNat)
 case atStart=>exact⟨by omega,0,Ψ2,rfl,by omega,Qk,O (by simpa using QQ.out),Px,H⟩
 obtain⟨bf,j,Ψ,rfl,hj,g,s,q,E⟩:=hrel
 by_cases a1:j<m
 case neg=>
  obtain rfl:j=m:=Y;have a2:decide ((j:Int)<(j:Int))=false:=by simp
  have S:hQ (D (eu t (d.take (k+1)) 1) Ψ wr):=O (by
   have h:=s.out;rw[jB (by rw[<-R3];exact je _)]at h;rw[Tf,F,au,show((1+k:Nat):Int)=(k:Int)+1 by omega];exact h)
  clear R al s
  gi_wp2_with fail
  exact⟨⟨by omega,k+1,Ψ,by go_num,by omega,g,S,q⟩,by simp only[ji];omega⟩
 have a2:=ap ((j:Int)<(m:Int));have bg:=ap (j<m);obtain⟨S,h,B⟩:=dS (l:=u) (j:=j) (by rw[<-R3];exact a1);have bb:hQ ((u.take (j+1)).map (λn=>((k:Int)+1,n))=(u.take j).map (λn=>((k:Int)+1,n))++[((k:Int)+1,S)]):=O (by rw[B,jA];rfl);obtain⟨-,_,_,U,-,-,o⟩:=E.out;injection U with V X Tn
 subst V;subst Tn;obtain⟨gn,on,rfl,-,o⟩:=o Y;have x:=o j (I N S) (by rw[ju,h];rfl);have aa:=R (O5++(u.take j).map λn=>((k:Int)+1,n)) ((k:Int)+1,S) Ψ wr s g.lt (by
  rw[jk,jk,jc,qD];have C:=QT.out;rw[au]at C;have h2:=Y8.out;simp only[jn,jE]
  omega)
 rw[qc,<-bb]at aa;dsimp only at aa;obtain⟨fn,tmps,assign,body,hy,hR⟩:=aa;have HR:=O hR;clear o h B X hR
 gi_wp2_with fail
 refine⟨rfl,HR.mono ?_⟩;rintro e W3 (⟨rfl,Tt,B,h⟩|⟨rfl,Uz,B,h⟩)
 ·have QI:=O (g.yield B h)
  have Qo:=O (q.keep h);have Wk:=O (E.keep h);have X:=O Tt;have bh:=B.size;clear Tt B h HR g q E s hy x
  gi_wp2_with fail
  exact⟨⟨by omega,j+1,Ψ,by go_num,by omega,QI,X,Qo,Wk⟩,by simp only[ji];omega⟩
 have X:=O Uz;clear Uz B h HR g q E s hy x
 gi_wp2
 refine j6 (results_none rfl _ _ _) rfl ?_;exact⟨⟨_,rfl⟩,.inr ⟨_,_,trivial,X⟩⟩
end
section
attribute [local go_sem] Oper.semAt_some
def EB0:EK (Int×Int):=⟨λx=>[I N x.2,I N x.1,I N 0,hH hF 0 0],4,73,by decide,λ_=>rfl,λx v a=>by simp at a;rcases a with rfl|rfl|rfl|rfl<;>rfl⟩
theorem DU:(ih.info? 73).map (λi=>(i.zero,i.size,i.bytes))=T (T (ii #[I N 0,I N 0,I N 0,hH hF 0 0]),4,48):=by kernel_rfl
theorem J0(b:hZ)(a:Int)(w:hU):ja ih 66 #[ii #[b],I N a] w λe w'=>e=jb (.func (.func 133) #[] #[jd (T ⟨w.heap.size+1,0,hF⟩),jd (T ⟨w,0,hF⟩)])/\w'=(w.alloc (hK #[b] 52)).alloc (hK #[I N a] 3):=by
 go_enter func66,ntmps66
 go_wp2_with fail
 go_ret;exact⟨rfl,rfl⟩
section
variable {P:kn} {F:Fence} {nF:Nat}
theorem Bs{e:Array Oper}{i:List Oper}{o:Oper}{a:Act}{w:hU}{j:Exit->Act->hU->Prop}(k:Region.wanted o (yielded e a.tmps)=true)(b:jo)(x:Operand)(f:o.op=.load b x)
 (g:Nat) (l:a.eval x=jd (T ⟨g,0,hF⟩)) (t:jo) (cs:Array hZ) (fr:Nat×Nat) (d:TypeDesc) (m:w.heap[g]?=T (hK cs t fr))
 (n:P.underlying b=T d) (p:(match d with| .struct _ | .array _ _=>true|_=>false)=true) (q:(P.info? b).map (·.size)=T cs.size)
 (h:wpListIn F nF P e j i (a.put o.dst (ii cs)) w):wpListIn F nF P e j (o::i) a w:=by
 refine wpListIn_step λu r=>?_
 rw[if_pos k];unfold Oper.wpIn;refine⟨by simp[Oper.about,f],?_⟩;rw[Oper.semAt_plain F _ _ (by rw[f];intro c s;cases s)];simp only[execOp,f,l,Instr.loadAt,Instr.sureAddr,Sem.run_bind,Sem.run_pure,Result.andThen_ok,run_loadVar_row w g t b cs fr d m n p q];exact r _ _ h
end
theorem sP{g:Grp}{a:Int}{l:List Chg}(c:cG g)(f:dD l)(d:eS g a l):0<=a/\a<512:=by
 by_cases h:0<g.epoch
 ·have b:=d.own
  rw[decide_eq_true h]at b;unfold cE at b;obtain⟨m,i,j⟩:=qd.1 b;have k:a∈aU g.tree:=by rw[<-c.dev];exact jf.2 ⟨m,i,by simpa using j⟩
  have e:=(mq g.tree a).1 k;exact⟨e.1,e.2.1⟩
 have he:g.epoch=0:=by have:=c.ep.1;omega
 obtain⟨x,r,rfl,b⟩:=d.first he;have:=(f.each x (js ..)).1;rw[<-b];exact this
theorem tX(g:Grp)(a:Int)(l:List Chg):(eE g=false/\ci g a l=1)\/(eE g=true/\(fY l=false\/iH g a l=false)/\ci g a l=221)\/(eE g=true/\fY l=true/\iH g a l=true/\ci g a l=0):=by
 unfold ci
 by_cases h:cG g
 ·rw[A6 h,if_pos h]
  by_cases b:dD l/\eS g a l
  ·rw[if_pos b];exact .inr (.inr ⟨rfl,mo.2 b.1,pK.2 b.2,rfl⟩)
  rw[if_neg b];refine .inr (.inl ⟨rfl,?_,rfl⟩)
  by_cases c:dD l
  ·right;exact pQ λd=>b ⟨c,d⟩
  left;exact BD c
 rw[gA h,if_neg h];exact .inl ⟨rfl,rfl⟩
theorem sS(g:Grp)(vm vt vl:hZ)(a:Int)(l:List Chg)(w:hU)(h:cS w g vm vt)(j:EC.At w vl l)(k:g.mem.length<=1000000)(E:g.tree.length<=700000)(m:l.length<=1000000):
 ja ih 15 #[ii (aB g vm vt).toArray,I N a,vl] w λe w'=>∃z,e=jb (jl #[z,I N (ci g a l)])/\w'.ownsRow w 73 4 z (dc g a l).length (EB0.flat (dc g a l))/\ic w w w':=by
 have C:=tX g a l;have s:=mC (vm:=vm) (vt:=vt) h.llen;obtain⟨o,c⟩:=J ((aB g vm vt).toArray);rw[<-c]at s⊢;have D:=ak (jg w (hK o 54)) (af (w.alloc (hK o 54)) (hK #[hH hF 0 0] 26));have t:=jg (w.alloc (hK o 54)) (hK #[hH hF 0 0] 26);rw[jX]at t;have i:ic w w ((w.alloc (hK o 54)).alloc (hK #[hH hF 0 0] 26)):=(af w _).trans ((af (w.alloc (hK o 54)) (hK #[hH hF 0 0] 26)).mono (af w _).size);have u:=O D;have H:=O t;have K:=O i;have y:=O (h.below i);have B:=O (j.below i);obtain⟨r,cl,rfl,-,-⟩:=j.form;obtain⟨n,v⟩:=J l.length;rw[<-v]at B⊢;have HV:hQ (∀W,cS W g vm vt->ja ih 50 #[ii o] W λe w'=>e=jb (.bool (eE g))/\ic W W w'):=O (by rw[c];exact λW d=>yK g vm vt W d k Y);have HP:hQ (∀W,cG g->cS W g vm vt->EC.At W (hH r n cl) l->ja ih 65 #[ii o,I N a,hH r n cl] W λe w'=>e=jb (.bool (iH g a l))/\ic W W w'):=O (by rw[c];exact λW f d x=>Kr g vm vt _ a l W d f k x m);have Un:hQ (∀W,dD l->cS W g vm vt->EC.At W (hH r n cl) l->ja ih 41 #[ii o,hH r n cl] W λe w'=>∃z,e=jb (ii #[z])/\aT w' z (aJ g.tree l)/\ic W W w'):=O (by rw[c];exact λW q d x=>tW g vm vt _ l W d q E x);have Q:=O s;have HL:=O m;have RY:=O v;have SI:=O E;have U0:=O C;obtain⟨er,d⟩:=J (ci g a l);have Wm:hQ (er≠0->dc g a l=[]):=O (λh=>by unfold dc;rw[if_neg (by rw[<-d];exact h)]);have a3:hQ (er=0->dc g a l=dF (aJ g.tree l) a):=O (λh=>by unfold dc;rw[if_pos (by rw[<-d];exact h)]);rw[<-d]at U0⊢;clear C s c D t i h j k E m v d;refine(callsIn_wide (n:=0)).1 ?_;refine callsIn_of_wp_marks func15 rfl trivial ?_ rfl;simp only[ntmps15,jr,jn,jE,Nat.reduceAdd,Nat.reduceSub,q4,q5,q6,q8,qC,qa]
 gi_wp2_with (refine mr rfl 54 _ rfl w.heap.size rfl 54 o (0,0) _ u.out jV rfl Q ?_)
 refine⟨trivial,rfl,(callsIn_wide.2 (HV _ y.out)).mono ?_⟩;rintro e R ⟨rfl,c⟩;have D:=Z u c;have v:=Z H c;have S:=O (y.below c);have x:=O (B.below c);have F:=ac K c;clear c u H y B K;obtain⟨d,i⟩:=J w.heap.size;rw[<-i]at D v⊢;have H:=O i;clear i
 rcases U0.out with⟨f,he⟩|⟨f,B,he⟩|⟨f,q,B,he⟩
 ·subst he
  rw[f];have K:hQ (dc g a l=[]):=O (Wm G);have i:jj R (d+1) 26 (hH hF 0 0):=v.out;clear f;have Su:=i.cell;have aa:=i.frozen
  gi_wp2_with fail
  have u:(R.setCell ⟨d+1,0,hF⟩ (hH hF 0 0)).cell? ⟨d+1,0,hF⟩=T (hH hF 0 0):=(i.set _).cell;exact⟨jl #[hH hF 0 0,I N 1],by simp[results,mb,go_sem,u],_,rfl,by rw[K];exact jS _ _ _ _,F.setCell (p:=⟨d+1,0,hF⟩) (by rw[H];show w.heap.size<=w.heap.size+1;omega) _⟩
 ·subst he
  rw[f];have M:cG g:=by
   by_cases P:cG g
   ·exact P
   rw[gA P]at f;cases f
  have U:=O M;have K:hQ (dc g a l=[]):=O (Wm G);clear f M;have a1:=O B;clear B;have ad:=O (wh l (hH r n cl))
  gi_wp2_with fail
  refine⟨trivial,rfl,(callsIn_wide.2 (ad R x HL)).mono ?_⟩;rintro e y ⟨rfl,c⟩;have j:=Z D c;have k:=Z v c;have m:=O (S.below c);have s:=O (x.below c);have t:=ac F c;clear D v S x F;clear c
  rcases a1.out with q|q
  ·rw[q]
   clear q;have i:jj y (d+1) 26 (hH hF 0 0):=k.out;have Su:=i.cell;have aa:=i.frozen
   gi_wp2_with fail
   refine⟨trivial,?_⟩
   gi_wp2_with fail
   have u:(y.setCell ⟨d+1,0,hF⟩ (hH hF 0 0)).cell? ⟨d+1,0,hF⟩=T (hH hF 0 0):=(i.set _).cell;exact⟨jl #[hH hF 0 0,I N 221],by simp[results,mb,go_sem,u],_,rfl,by rw[K];exact jS _ _ _ _,t.setCell (p:=⟨d+1,0,hF⟩) (by rw[H];show w.heap.size<=w.heap.size+1;omega) _⟩
  by_cases C:fY l=false
  ·rw[C]
   clear C q;have i:jj y (d+1) 26 (hH hF 0 0):=k.out;have Su:=i.cell;have aa:=i.frozen
   gi_wp2_with fail
   refine⟨trivial,?_⟩
   gi_wp2_with fail
   have u:(y.setCell ⟨d+1,0,hF⟩ (hH hF 0 0)).cell? ⟨d+1,0,hF⟩=T (hH hF 0 0):=(i.set _).cell;exact⟨jl #[hH hF 0 0,I N 221],by simp[results,mb,go_sem,u],_,rfl,by rw[K];exact jS _ _ _ _,t.setCell (p:=⟨d+1,0,hF⟩) (by rw[H];show w.heap.size<=w.heap.size+1;omega) _⟩
  have C:fY l=true:=by simpa using C
  rw[C];have al:=O q;clear C q
  gi_wp2_with (refine Bs ag 54 _ rfl d rfl 54 o (0,0) _ j.out jV rfl Q ?_)
  refine⟨trivial,rfl,(callsIn_wide.2 (HP y U m s)).mono ?_⟩;rintro e C ⟨rfl,c⟩;have au:=Z j c;have V:=Z k c;have Wr:=O (m.below c);have PM:=O (s.below c);have X:=ac t c;clear j k m s t;clear c;rw[al];have i:jj C (d+1) 26 (hH hF 0 0):=V.out;have Su:=i.cell;have aa:=i.frozen
  gi_wp2_with fail
  have u:(C.setCell ⟨d+1,0,hF⟩ (hH hF 0 0)).cell? ⟨d+1,0,hF⟩=T (hH hF 0 0):=(i.set _).cell;exact⟨jl #[hH hF 0 0,I N 221],by simp[results,mb,go_sem,u],_,rfl,by rw[K];exact jS _ _ _ _,X.setCell (p:=⟨d+1,0,hF⟩) (by rw[H];show w.heap.size<=w.heap.size+1;omega) _⟩
 subst he;rw[f];have M:cG g:=by
  by_cases P:cG g
  ·exact P
  rw[gA P]at f;cases f
 have U:=O M;have TW:=O (mo.1 q);have QT:=O (pK.1 B);have a4:=O q;have al:=O B;have ad:=O (wh l (hH r n cl));clear f M q B
 gi_wp2_with fail
 refine⟨trivial,rfl,(callsIn_wide.2 (ad R x HL)).mono ?_⟩;rintro e y ⟨rfl,c⟩;have j:=Z D c;have k:=Z v c;have m:=O (S.below c);have s:=O (x.below c);have t:=ac F c;clear D v S x F;clear c;rw[a4]
 gi_wp2_with (refine Bs ag 54 _ rfl d rfl 54 o (0,0) _ j.out jV rfl Q ?_)
 refine⟨trivial,rfl,(callsIn_wide.2 (HP y U m s)).mono ?_⟩;rintro e C ⟨rfl,c⟩;have au:=Z j c;have V:=Z k c;have Wr:=O (m.below c);have PM:=O (s.below c);have X:=ac t c;clear j k m s t;clear c;rw[al]
 gi_wp2_with (refine mr rfl 54 _ rfl d rfl 54 o (0,0) _ au.out jV rfl Q ?_)
 refine⟨trivial,rfl,(callsIn_wide.2 (Un C TW Wr PM)).mono ?_⟩;rintro e i ⟨z,rfl,j,c⟩;have k:=O j;have m:=Z V c;have t:=ac X c;clear au V Wr PM X;clear c j;obtain⟨B,F,M,rfl⟩:=iO k
 gi_wp2_with fail
 refine⟨trivial,rfl,(callsIn_wide.2 (J0 _ a i)).mono ?_⟩;rintro e s ⟨rfl,c⟩
 gi_wp2_with fail
 rw[<-c];have j:ic i i s:=by rw[c];exact(af i _).trans ((af _ _).mono (af i _).size)
 have bT:s.heap[i.heap.size]?=T (hK #[hH B F M] 52 (0,0)):=by rw[c];exact ak (jg i _) (af _ _)
 have bA:jj s (i.heap.size+1) 3 (I N a):=by
  have h:=Boxed.new (i.alloc (hK #[hH B F M] 52)) 3 (I N a);rw[jX]at h;rw[c];exact h
 have bN:jj s (d+1) 26 (hH hF 0 0):=ak m j;have a5:=k.below j;have ba:ic w w s:=t.trans (j.mono t.size);have Tg:i.heap.size+2<=s.heap.size:=by rw[c];simp
 have bg:d+1<i.heap.size:=(jq.1 m).1;have bb:w.heap.size=d:=H.symm;have aa:=O bb;obtain⟨h0,h1⟩:=sP U TW QT;have E:(aJ g.tree l).length<=1000000:=by have:=tp g.tree l;have:=SI.out;have:=TW.len;omega
 have RF:hQ (dc g a l=dF (aJ g.tree l) a):=O (a3 (by trivial));have UG:hQ (d+1<=s.heap.size):=O Y;obtain⟨i0,hi,Pe,bc,bd⟩:=lz DU;clear c m k j t;refine nK (n:=0) (gf:=133) (lb:=#[jd (T ⟨i.heap.size+1,0,hF⟩),jd (T ⟨i,0,hF⟩)]) rfl (enters_of func133 ae rfl)
  (Kf (aJ g.tree l) (hH B F M) a h0 h1 s (d+1) hF 0 0 26 bN (i.heap.size+1) i.heap.size Y Y bA bT a5 E) Y (λ_=>rfl) (λk hk=>hk.2.2)
  (λt Ψ W=>kK (d+1) 26 (d+1) 73 4 t.length (EB0.flat t) (λ_=>True) Ψ W/\(ic w w W/\∀k,Ψ k->w.heap.size<=k))
  (λ_ _ _ _=>False)
  ((oB s.heap.size (d+1) 26 (d+1) 73 4 (λt=>t.length) (λt=>EB0.flat t) (λ_ _=>True)).and (k7 _ _ w (je _) Y))
  (λ_=>eY _ _)
  ⟨⟨_,bN,λh=>h.2.1 rfl,jS _ _ _ _,by simp[Value.ownBlock],trivial⟩,ba,λk hk=>by omega⟩
  (λx D _ _=>D={tmps:=#[ii o,I N a,hH r n cl,jd (T ⟨d,0,hF⟩),jN,jN,jd (T ⟨d+1,0,hF⟩),I N 0,I N x.1,I N x.2,
   ii o,.bool true,.bool false,hH r n cl,.bool true,.bool false,.bool false,ii o,I N a,hH r n cl,.bool true,.bool false,.bool false,ii o,hH r n cl,ii #[hH B F M],I N a,
   .func (.func 133) #[] #[jd (T ⟨i.heap.size+1,0,hF⟩),jd (T ⟨i,0,hF⟩)],I N x.1,I N x.2,jN,jN,jN,jN,jN,jN,jN],defers:=[]}) (eY _ _)
  ?assign ?body ?done ?stop
 case assign=>
  intro l' t x Ψ j K c _ P
  gi_wp2
  exact P _ _ (jt _ _) c rfl
 case body=>
  rintro l' t ⟨S,nd⟩ Ψ D Pd ⟨⟨v,f,a1,c,x,-⟩,k,hΨ⟩ rfl j Uk bf Vf;have bh:t.length<=10000:=by have:=j;rw[jk]at this;omega
  have hc:=f.cell;have K:=O k;have bk:=k.size;have S0:=O (B5 Pd [I N nd,I N S,I N 0,hH hF 0 0] 73);clear k j
  gi_wp2_with (gi_at_builtin;refine wpListIn_append_own_at _ rfl _ _ 26 rfl (d+1) 73 i0 (ii #[I N 0,I N 0,I N 0,hH hF 0 0]) 4 48 underlying26 hi Pe bc bd rfl G _ _ _ rfl (c.alloc _) ⟨Pd,0,hF⟩ 1 1 [I N nd,I N S,I N 0,hH hF 0 0] rfl rfl S0 (by simp[pr]) (by unfold maxLen;omega) Y (by simp;omega) ?_;intro v' w1 Wh Wg ZF a2;obtain⟨g',bl,rfl⟩:=ownsRow_succ Wh;obtain⟨m,ZM⟩:=oq (B0:=s.heap.size) f G c Y (je _) a1 x Uk Wh Wg (by intro j hj;rw[hj]at a2;rcases a2 with h|h;exact .inl h.symm;exact .inr (by simpa using h));have j:jj w1 (d+1) 26 v:=(f.alloc _).kept Wg (by have:=f.not_row (e:=73) G c;exact this);have bm:=j.cell;have bn:=j.frozen)
  obtain⟨v',j,b2,b3,b4,b5⟩:=ZM;refine⟨⟨m.1,m.2.1,m.2.2⟩,⟨v',j,b2,?_,b4,trivial⟩,K.trans (m.2.1.mono (by rw[aa];omega)),hΨ⟩;rw[EB0.flat_append,jk];exact b3
 case done=>
  rintro D xs Ψ W hD hS ⟨⟨v,f,a1,c,x,-⟩,k,hΨ⟩ P;have hc:=f.cell;have q:=f.frozen;have K:=O k;clear k;obtain⟨j,k,rfl⟩:=aL c;obtain⟨m,S⟩:=J xs.length;rw[<-S]at f c x hc;have a2:=O S;have WN:=O hS;clear S hS
  gi_wp2
  refine⟨by simp,.inl ⟨_,_,rfl,run_takeDeferred (b:=D) (ds:=[]) ?_,?_⟩⟩
  ·exact(KeepsOthers.setCell W _ _).same D _ P rfl
  have S:jj (W.setCell ⟨d+1,0,hF⟩ (hH j m k)) (d+1) 26 (hH j m k):=f.set _;have S3:(W.setCell ⟨d+1,0,hF⟩ (hH j m k)).heap[D]?=T (.deferred (T [])):=(KeepsOthers.setCell W _ _).same D _ P rfl;have bf:(W.setCell ⟨d+1,0,hF⟩ (hH j m k)).ownsRow (d+1) 73 4 (hH j m k) m (EB0.flat xs):=
   c.kept (kw W _ _) (.inr (f.not_row (e:=73) G c).symm)
  have Yj:jj ((W.setCell ⟨d+1,0,hF⟩ (hH j m k)).putObj D (.deferred hF)) (d+1) 26 (hH j m k):=
   (World.putObj_heap_other Y).trans S
  have u:=Yj.cell;refine⟨jl #[hH j m k,I N 0],by simp[results,mb,go_sem,u],_,rfl,?_,?_⟩
  ·have h:=ownsRow_putObj bf (.deferred hF) S3 rfl
   rw[aa,RF,<-WN,<-a2];exact oL h Y
  exact(K.setCell (p:=⟨d+1,0,hF⟩) (by show w.heap.size<=d+1;omega) _).trans (gZ Y)
 intro D c t Ψ W _ _ h;exact h.elim
end
theorem cD.at{w:hU}{b:Nat}{c:Cmt}{q:CQ}(h:cD w b c q):w.cell? ⟨b,0,hF⟩=T (I N c.folder)/\w.cell? ⟨b,1,hF⟩=T (I N c.epoch)/\w.cell? ⟨b,34,hF⟩=T (I N c.author)/\w.cell? ⟨b,35,hF⟩=T q.vc/\w.cell? ⟨b,36,hF⟩=T q.vp/\
 w.cell? ⟨b,37,hF⟩=T q.vb/\w.cell? ⟨b,38,hF⟩=T q.vw/\w.cell? ⟨b,71,hF⟩=T (I N c.r)/\w.cell? ⟨b,72,hF⟩=T (I N c.s):=by
 obtain⟨a,d,e,f,g,i,j,k,l⟩:=eK c q h.plen h.clen;exact⟨h.get a,h.get d,h.get e,h.get f,h.get g,h.get i,h.get j,h.get k,h.get l⟩
theorem cD.new(w:hU){c:Cmt}{q:CQ}(a:c.parent.length=32)(b:c.confirm.length=32):cD (w.alloc (hK (aj c q).toArray 31)) w.heap.size c q:=⟨jg w _,a,b⟩
theorem cD.lt{w:hU}{b:Nat}{c:Cmt}{q:CQ}(h:cD w b c q):b<w.heap.size:=(jq.1 h.blk).1
theorem cD.below{w w':hU}{b:Nat}{c:Cmt}{q:CQ}(h:cD w b c q)(a:ic w w w'):cD w' b c q:=h.keep (a.block b h.lt)
theorem mu{α:Type}{w:hU}{v:hZ}{l:List α}{b:List hZ}{f:α->hZ->List hZ}{k:Nat}{D:Nat->Prop}(h:ah D w v k l.length (cB f l b))(hk:∀x a,(f x a).length=k){j:Nat}{x:α}{a:hZ}(d:l[j]?=T x)(m:b[j]?=T a):∃g o c,v=hH (T ⟨g,o,hF⟩) l.length c/\∀i y,(f x a)[i]?=T y->w.cell? ⟨g,o+j*k+i,hF⟩=T y:=by
 obtain⟨s,p,c,rfl,t,u,n⟩:=h;have z:=(jY.1 d).1;obtain⟨g,o,rfl,-,q⟩:=n Y;refine⟨g,o,c,rfl,λi y e=>?_⟩;have r:i<k:=by rw[<-hk x a];exact(jY.1 e).1
 rw[qe];exact q (j*k+i) y ((nZ f k hk l b j i x a d m r).trans e)
def vD(b:Bx):Prop:=1<=b.node/\b.node<1024/\1<=b.lev/\b.lev<=9/\kD b.u b.body.length
def rP(x:Wl):Prop:=eF x.dev/\kD x.u x.body.length
structure iS(l:List Wl):Prop where
 each:∀x∈l,rP x
 inc:∀i,0<i->i<l.length->((l.map Wl.dev).getD (i-1) 0)<((l.map Wl.dev).getD i 0)
theorem iS.snoc{l:List Wl}{x:Wl}(h:iS l)(e:rP x)(f:l=[]\/∃y,l[l.length-1]?=T y/\y.dev<x.dev):iS (l++[x]):=by
 refine⟨λy a=>?_,λi c g=>?_⟩
 ·rcases jG.1 a with a|a
  ·exact h.each y a
  rw[ki]at a;subst a;exact e
 rw[jk,List.length_singleton]at g;rw[jA]
 rcases j8 i l.length with b|b
 ·have d:=h.inc i c b
  simp only[jC,oj (show i<(l.map Wl.dev).length by rw[jc];exact b),oj (show i-1<(l.map Wl.dev).length by rw[jc];omega)]at d⊢;exact d
 obtain rfl:i=l.length:=Y
 rcases f with rfl|⟨y,a,d⟩
 ·exact absurd c av
 simp only[jC,oj (show l.length-1<(l.map Wl.dev).length by rw[jc];omega),qu (show(l.map Wl.dev).length<=l.length by rw[jc];exact je _),ju,a,jc,Nat.sub_self]
 simpa using d
theorem iS.nil:iS []:=⟨(λx h=>by cases h),λi b a=>absurd a av⟩
theorem nh{a:Int}{n:Nat}:kH a n=0↔kD a n:=⟨λh=>by
 by_cases g:kD a n
 ·exact g
 rw[r5 g]at h;exact absurd h G,BZ⟩
theorem B6(c:Cmt)(q:CQ)(w:hU)(a:az (·<w.heap.size) w c q)(l1:c.chg.length<=1000000)(l2:c.path.length<=1000000)(l3:c.box.length<=1000000)(l4:c.wel.length<=1000000)(l5:∀b∈c.box,b.body.length<4611686018427387904)(l6:∀b∈c.wel,b.body.length<4611686018427387904):
 ja ih 7 #[ii (aj c q).toArray] w λe w'=>e=jb (I N (en c))/\ic w w w':=by
 obtain⟨r,B⟩:=J (en c);rw[<-B];have C:=O B;have D:=cD.new w (q:=q) a.plen a.clen;have f:=af w (hK (aj c q).toArray 31);obtain⟨pc,cc,F⟩:=a.chg.form;obtain⟨pp,cp,j⟩:=a.path.form;obtain⟨pb,cb,k⟩:∃p c',q.vb=hH p c.box.length c':=by obtain⟨us,h,-⟩:=a.box;exact h.form
 obtain⟨pw,cw,n⟩:∃p c',q.vw=hH p c.wel.length c':=by obtain⟨us,h,-⟩:=a.wel;exact h.form
 obtain⟨o,t,c2,g,m,s,x,-,-⟩:=D.at;rw[F]at g;rw[j]at m;rw[k]at s;rw[n]at x;have bg:=O (EK.At.of_sl (E:=EC) a.chg);have bu:=O a.path;have SU:=O a.box;have RA:=O a.wel;have bv:=O l5;have bw:=O l6;rw[F]at bg;obtain⟨nc,u⟩:=J c.chg.length;obtain⟨np,y⟩:=J c.path.length;obtain⟨nb,a4⟩:=J c.box.length;obtain⟨P,a5⟩:=J c.wel.length;rw[<-u]at g bg l1;rw[<-y]at m l2;rw[<-a4]at s l3;rw[<-a5]at x l4;obtain⟨fd,H⟩:=J c.folder;obtain⟨ep,K⟩:=J c.epoch;obtain⟨au,M⟩:=J c.author;rw[<-H]at o;rw[<-K]at t;rw[<-M]at c2;obtain⟨x0,i⟩:=J (w.alloc (hK (aj c q).toArray 31));obtain⟨b,S⟩:=J w.heap.size;have z:=D.blk;obtain⟨aa,d⟩:=J ((aj c q).toArray);rw[<-d]at i f z⊢;rw[<-d]at o t c2 g m s x;rw[<-i,<-S]at o t c2 g m s x z;rw[<-i]at f;have HX:=O i;have RQ:=O S;have Q:=O z;have R:=O f;have Pm:=O (bg.below f);have b8:hQ (aa[36]?=T (hH pp np cp)):=O (by rw[d,y,<-j];simpa using(eK c q a.plen a.clen).2.2.2.2.1);have bA:hQ (aa[37]?=T (hH pb nb cb)):=O (by rw[d,a4,<-k];simpa using(eK c q a.plen a.clen).2.2.2.2.2.1);have Zo:hQ (aa[38]?=T (hH pw P cw)):=O (by rw[d,a5,<-n];simpa using(eK c q a.plen a.clen).2.2.2.2.2.2.1);have WA:=O u;have bd:=O y;have Wm:=O a4;have Tu:=O a5;have bm:=O H;have RE:=O K;have ZZ:=O M;have bB:=O j;have Wq:=O k;have bn:=O n;have U:=O (Bp fd);have WW:=O (ye au);obtain⟨fo,V⟩:=J (decide (gy fd));obtain⟨dv,al⟩:=J (decide (eF au));rw[<-V]at U;rw[<-al]at WW;have bo:=O V;have bq:=O al;have W:=O (wh c.chg (hH pc nc cc));obtain⟨fm,X⟩:=J (fY c.chg);rw[<-X]at W;have br:=O X;have U2:hQ (c.chg.length<=1000000):=O (by rw[<-u];exact l1);clear B D f F j k n a u y a4 a5 H K M i S z d V al X l5 l6
 go_enter func7,ntmps7
 go_upto_region 1 with fail
 rw[<-HX,<-RQ]
 go_wp2_with fail
 refine(U x0).mono ?_;rintro e x1 ⟨rfl,rfl⟩
 cases fo with
 |false=>
  obtain rfl:r=220:=by rw[C];exact dM λh=>by have h2:=h.fol;rw[<-bm]at h2;have h3:=bo.out;rw[decide_eq_true h2]at h3;cases h3
  go_wp2_with fail
  go_ret;exact⟨rfl,R⟩
 |true=>
 by_cases f:ep<1
 ·have bC:decide (ep<1)=true:=by simpa using f
  obtain rfl:r=220:=by rw[C];exact dM λh=>by have:=h.ep.1;rw[<-RE]at this;omega
  clear f
  go_wp2_with fail
  go_ret;exact⟨rfl,R⟩
 have bC:decide (ep<1)=false:=by simpa using f
 have Sl:=O f;clear f
 by_cases f:1099511627776<ep
 ·have bI:decide (1099511627776<ep)=true:=by simpa using f
  obtain rfl:r=220:=by rw[C];exact dM λh=>by have:=h.ep.2;rw[<-RE]at this;omega
  clear f
  go_wp2_with fail
  go_ret;exact⟨rfl,R⟩
 have bI:decide (1099511627776<ep)=false:=by simpa using f
 have B:=O f;clear f
 go_wp2_with fail
 refine(WW x0).mono ?_;rintro e x1 ⟨rfl,rfl⟩
 cases dv with
 |false=>
  obtain rfl:r=220:=by rw[C];exact dM λh=>by have h2:=h.aut;rw[<-ZZ]at h2;have h3:=bq.out;rw[decide_eq_true h2]at h3;cases h3
  go_wp2_with fail
  go_ret;exact⟨rfl,R⟩
 |true=>
 go_wp2_with fail
 refine(W x0 Pm U2).mono ?_;rintro e x1 ⟨rfl,d⟩;have X:=Z Q d;have H:=ac R d;replace m:=cell_below m d;replace s:=cell_below s d;replace x:=cell_below x d;clear d Q R Pm o t c2 g W WW U
 cases fm with
 |false=>
  obtain rfl:r=220:=by rw[C];exact dM λh=>by have h2:=mo.2 h.chg;rw[<-br]at h2;cases h2
  go_wp2_with fail
  go_ret;exact⟨rfl,H⟩
 |true=>
 by_cases f:¬np=10
 ·have a:((np:Int)==10)=false:=by simp;omega
  have g:((np:Int)!=10)=true:=by simp;omega
  obtain rfl:r=220:=by rw[C];exact dM λh=>f (bd.trans h.plen)
  clear f
  go_wp2_with fail
  go_ret;exact⟨rfl,H⟩
 have bK:np=10:=Y;clear f;subst bK
 by_cases f:1024<nb
 ·have bM:=ap (1024<(nb:Int))
  obtain rfl:r=220:=by rw[C];exact dM λh=>by have:=h.blen;rw[<-Wm]at this;omega
  clear f
  go_wp2_with fail
  go_ret;exact⟨rfl,H⟩
 have bM:=ar (1024<(nb:Int));have a4:nb<=1024:=Y;clear f
 by_cases f:512<P
 ·have bN:=ap (512<(P:Int))
  obtain rfl:r=220:=by rw[C];exact dM λh=>by have:=h.wlen;rw[<-Tu]at this;omega
  clear f
  go_wp2_with fail
  go_ret;exact⟨rfl,H⟩
 have bN:=ar (512<(P:Int));have a5:P<=512:=Y;clear f
 go_wp2_with fail
 go_loopw [56] (λi wr=>∃k:Nat,i=I N k/\k<=10/\hQ (∀j,j<k->aN (c.path.getD j 0))/\hQ (wr.heap[b]?=T (hK aa 31 (0,0)))/\hQ (ic w w wr)) (λi _=>10-(ji i).toNat)
 case atStart=>exact⟨0,rfl,jI _,O (λj hj=>absurd hj Y),X,H⟩
 obtain⟨k,rfl,hk,HP,HK,z⟩:=hrel
 by_cases ba:k<10
 case pos=>
  have bO:=ap ((k:Int)<10);have U:=ap (k<10);obtain⟨y,K⟩:∃y,c.path[k]?=T y:=⟨_,jD (by rw[<-bd];exact ba)⟩;obtain⟨-,V,c',F,-,-,D⟩:=bu.out;rw[bB]at F;injection F with e1 e2 e3
  obtain⟨g,o,hg,-,D⟩:=D (by rw[<-bd];omega);rw[hg]at e1;subst e1;have d0:wr.cell? ⟨g,o+k,hF⟩=T (I N y):=cell_below (D k (I N y) (by rw[ju,K];rfl)) z;have HY:=O K;have a:=O (fk y);obtain⟨u,t⟩:=J (bL y);rw[<-t]at a;have Q3:=O t;clear K D e2 e3 hg t
  go_wp2_with fail
  refine(a _).mono ?_;rintro e W ⟨rfl,d⟩;have S:=Z HK d;have M:=ac z d;clear d a HK z d0
  by_cases n:u=0
  ·have a1:(u !=0)=false:=by simpa using n
   have a2:(u==0)=true:=by simpa using n
   have a3:hQ (∀j,j<k+1->aN (c.path.getD j 0)):=O (λj hj=>by
    rcases j8 j k with a|a
    ·exact HP j a
    obtain rfl:j=k:=Y;rw[show c.path.getD j 0=y by simp[jC,HY.out]];exact uL.1 (Q3.symm.trans n))
   clear n
   go_wp2_with fail
   exact⟨⟨k+1,by go_num,by omega,a3,S,M⟩,by simp only[ji];omega⟩
  have a1:(u !=0)=true:=by simpa using n
  have a2:(u==0)=false:=by simpa using n
  obtain rfl:r=220:=by rw[C];exact dM λh=>n (by rw[Q3];exact uL.2 (h.path y (jw HY)))
  clear n
  go_wp2_with fail
  go_ret;exact⟨rfl,M⟩
 have bO:=ar ((k:Int)<10);have bT:hQ (∀j,j<10->aN (c.path.getD j 0)):=O (λj hj=>HP j Y);have a:=cell_of HK bA;clear m s x X H HP
 go_wp2_with fail
 go_loopw [67] (λi wz=>∃k:Nat,i=I N k/\k<=nb/\hQ (∀x∈c.box.take k,vD x)/\hQ (wz.heap[b]?=T (hK aa 31 (0,0)))/\hQ (ic w w wz)) (λi _=>nb-(ji i).toNat)
 case atStart=>exact⟨0,rfl,jI _,O av,HK,z⟩
 clear a HK z;obtain⟨k,rfl,hk,HP,HK,z⟩:=hrel
 by_cases ba:k<nb
 case pos=>
  have bh:=ap ((k:Int)<(nb:Int));have bk:=ap (k<nb);obtain⟨x,f,Se⟩:=dS (l:=c.box) (j:=k) (by rw[<-Wm];exact ba);obtain⟨us,bb,bc⟩:=SU.out;obtain⟨b3,hu,Vv⟩:=bc.at (i:=k) (b:=x.body) (by rw[ju,f];rfl);obtain⟨g,o,c',hq,D⟩:=mu bb (λ_ _=>rfl) f hu;rw[Wq]at hq;injection hq with e1 e2 e3
  subst e1;subst e3;obtain⟨U,V,rfl⟩:=Vv.form;have ad:=bv x (jw f);have UN:=O f;have Tf:=O Se;obtain⟨m,hm⟩:=J x.body.length;have HM:=O hm;obtain⟨a,s,F,xb⟩:=x;dsimp only at ad hm D;rw[<-hm]at ad D;have d0:wr.cell? ⟨g,o+k*4,hF⟩=T (I N a):=cell_below (D 0 _ rfl) z;have d1:wr.cell? ⟨g,o+k*4+1,hF⟩=T (I N s):=cell_below (D 1 _ rfl) z;have d2:wr.cell? ⟨g,o+k*4+2,hF⟩=T (I N F):=cell_below (D 2 _ rfl) z;have M:wr.cell? ⟨g,o+k*4+3,hF⟩=T (hH U m V):=cell_below (D 3 _ rfl) z;have Zn:=O (CL F U m V ad);obtain⟨u,t⟩:=J (kH F m);rw[<-t]at Zn;have Q3:=O t;clear D bb bc hu Vv f Se e2 hm t ad
  go_upto_region 12 with fail
  obtain⟨y1,Uq⟩:=J wr;have X:hQ (y1.heap[b]?=T (hK aa 31 (0,0))):=by rw[Uq];exact HK
  have H:hQ (ic w w y1):=by rw[Uq];exact z
  rw[<-Uq]at d0 d1 d2 M⊢;clear Uq HK z;have d:=af y1 (hK #[I N a,I N s,I N F,hH U m V] 73);have O9:=jg y1 (hK #[I N a,I N s,I N F,hH U m V] 73);obtain⟨y2,f⟩:=J (y1.alloc (hK #[I N a,I N s,I N F,hH U m V] 73));rw[<-f]at d O9⊢;obtain⟨E,hg⟩:=J y1.heap.size;rw[<-hg]at O9⊢;have b4:=O hg;have W:=Z X d;have S:=ac H d;clear X H;have B:=O O9;clear O9 f d hg;have b0:=cell_of (i:=0) B rfl;have b1:=cell_of (i:=1) B rfl;have b2:=cell_of (i:=2) B rfl;have bf:=cell_of (i:=3) B rfl;clear d0 d1 d2 M
  by_cases f:a<1
  ·have g1:decide (a<1)=true:=by simpa using f
   obtain rfl:r=220:=by rw[C];exact dM λh=>by have M:=h.box _ (jw UN);exact by have:=M.1;dsimp only at this;omega
   clear f
   go_wp2_with fail
   go_ret;exact⟨rfl,S⟩
  have g1:decide (a<1)=false:=by simpa using f
  have bl:1<=a:=Y;clear f
  by_cases f:1024<=a
  ·have g2:decide (1024<=a)=true:=by simpa using f
   obtain rfl:r=220:=by rw[C];exact dM λh=>by have M:=h.box _ (jw UN);exact by have:=M.2.1;dsimp only at this;omega
   clear f
   go_wp2_with fail
   go_ret;exact⟨rfl,S⟩
  have g2:decide (1024<=a)=false:=by simpa using f
  have bs:a<1024:=Y;clear f
  by_cases f:s<1
  ·have g3:decide (s<1)=true:=by simpa using f
   obtain rfl:r=220:=by rw[C];exact dM λh=>by have M:=h.box _ (jw UN);exact by have:=M.2.2.1;dsimp only at this;omega
   clear f
   go_wp2_with fail
   go_ret;exact⟨rfl,S⟩
  have g3:decide (s<1)=false:=by simpa using f
  have b5:1<=s:=Y;clear f
  by_cases f:9<s
  ·have g4:decide (9<s)=true:=by simpa using f
   obtain rfl:r=220:=by rw[C];exact dM λh=>by have M:=h.box _ (jw UN);exact by have:=M.2.2.2.1;dsimp only at this;omega
   clear f
   go_wp2_with fail
   go_ret;exact⟨rfl,S⟩
  have g4:decide (9<s)=false:=by simpa using f
  have b6:s<=9:=Y;clear f
  go_wp2_with fail
  refine(Zn y2).mono ?_;rintro e y3 ⟨rfl,d⟩;have QG:=Z W d;have O8:=ac S d;clear d Zn W S B b0 b1 b2 bf
  by_cases n:u=0
  ·have a1:(u !=0)=false:=by simpa using n
   have a2:(u==0)=true:=by simpa using n
   have a3:hQ (∀y∈c.box.take (k+1),vD y):=O (λy K=>by
    rw[Tf]at K
    rcases jG.1 K with K|K
    ·exact HP y K
    rw[ki]at K;subst K;exact⟨by omega,by omega,by omega,by omega,by rw[<-HM];exact nh.1 (Q3.symm.trans n)⟩)
   clear n
   go_wp2_with fail
   exact⟨⟨k+1,by go_num,by omega,a3,QG,O8⟩,by simp only[ji];omega⟩
  have a1:(u !=0)=true:=by simpa using n
  have a2:(u==0)=false:=by simpa using n
  obtain rfl:r=220:=by rw[C];exact dM λh=>by have M:=h.box _ (jw UN);exact n (by rw[Q3,HM];exact nh.2 M.2.2.2.2)
  clear n
  go_wp2_with fail
  go_ret;exact⟨rfl,O8⟩
 have bh:=ar ((k:Int)<(nb:Int));have bk:=ar (k<nb);obtain rfl:k=nb:=Y;have Za:hQ (∀x∈c.box,vD x):=O (by have h:=HP.out;rw[jB (by rw[<-Wm];exact je _)]at h;exact h);have f6:=cell_of HK Zo;clear HP
 go_wp2_with fail
 go_loopw [99] (λi wz=>∃k:Nat,i=I N k/\k<=P/\hQ (iS (c.wel.take k))/\hQ (wz.heap[b]?=T (hK aa 31 (0,0)))/\hQ (ic w w wz)) (λi _=>P-(ji i).toNat)
 case atStart=>exact⟨0,rfl,jI _,O (by simpa using iS.nil),HK,z⟩
 clear f6 HK z;obtain⟨k,rfl,hk,bf,HK,z⟩:=hrel
 by_cases ba:k<P
 case pos=>
  have bh:=ap ((k:Int)<(P:Int));have bk:=ap (k<P);obtain⟨x,f,Se⟩:=dS (l:=c.wel) (j:=k) (by rw[<-Tu];exact ba);obtain⟨us,bb,bc⟩:=RA.out;obtain⟨b3,hu,Vv⟩:=bc.at (i:=k) (b:=x.body) (by rw[ju,f];rfl);obtain⟨g,o,c',hq,D⟩:=mu bb (λ_ _=>rfl) f hu;rw[bn]at hq;injection hq with e1 e2 e3
  subst e1;subst e3;have b5:hQ (∀j y,c.wel[j]?=T y->w.cell? ⟨g,o+j*3,hF⟩=T (I N y.dev)):=O (λj y K=>by
   obtain⟨u2,M,-⟩:=bc.at (i:=j) (b:=y.body) (by rw[ju,K];rfl);obtain⟨g2,o2,c2,s,bl⟩:=mu bb (λ_ _=>rfl) K M;rw[bn]at s;injection s with a b7 b9
   injection a with a
   injection a with bs b6
   subst bs;subst b6;exact bl 0 _ rfl)
  obtain⟨U,V,rfl⟩:=Vv.form;have ad:=bw x (jw f);have UN:=O f;have Tf:=O Se;obtain⟨m,hm⟩:=J x.body.length;have HM:=O hm;obtain⟨M,F,xb⟩:=x;dsimp only at ad hm D;rw[<-hm]at ad D;have d0:wr.cell? ⟨g,o+k*3,hF⟩=T (I N M):=cell_below (D 0 _ rfl) z;have d1:wr.cell? ⟨g,o+k*3+1,hF⟩=T (I N F):=cell_below (D 1 _ rfl) z;have d2:wr.cell? ⟨g,o+k*3+2,hF⟩=T (hH U m V):=cell_below (D 2 _ rfl) z;have Zn:=O (CL F U m V ad);obtain⟨u,t⟩:=J (kH F m);rw[<-t]at Zn;have Q3:=O t;have WW:=O (ye M);obtain⟨dv,al⟩:=J (decide (eF M));rw[<-al]at WW;have WB:=O al;clear D bb bc hu Vv f Se e2 hm t ad al
  go_upto_region 18 with fail
  obtain⟨y1,Uq⟩:=J wr;have X:hQ (y1.heap[b]?=T (hK aa 31 (0,0))):=by rw[Uq];exact HK
  have H:hQ (ic w w y1):=by rw[Uq];exact z
  rw[<-Uq]at d0 d1 d2⊢;clear Uq HK z;have d:=af y1 (hK #[I N M,I N F,hH U m V] 75);have O9:=jg y1 (hK #[I N M,I N F,hH U m V] 75);obtain⟨y2,f⟩:=J (y1.alloc (hK #[I N M,I N F,hH U m V] 75));rw[<-f]at d O9⊢;obtain⟨E,hg⟩:=J y1.heap.size;rw[<-hg]at O9⊢;have b4:=O hg;have W:=Z X d;have S:=ac H d;clear X H;have B:=O O9;clear O9 f d hg;clear d0 d1 d2
  cases dv with
  |false=>
   obtain rfl:r=220:=by rw[C];exact dM λh=>by have h2:=(h.wel _ (jw UN)).1;have h3:=WB.out;rw[decide_eq_true h2]at h3;cases h3
   refine jU ?_;refine aY (λs=>s.heap[E]?=T (hK #[I N M,I N F,hH U m V] 75 (0,0))/\s.heap[b]?=T (hK aa 31 (0,0))) (.take 0 (.take 1 (.one 2 (.take 3 (.take 4 (.take 5 (.take 6 (.take 7 (.take 8 (.take 9 (.take 10 (.take 11 (.take 12 (.take 13 (.take 14 (.take 15 (.take 16 (.take 17 (.take 18 (.take 19 (.take 20 (.take 21 (.take 22 (.one 23 (.take 24 (.take 25 .done)))))))))))))))))))))))))) ae ae ae G (λ_ _ _ _ h=>h) ⟨B,W⟩ ?_;obtain⟨z0,Pe⟩:=J y2.drew;have d:=aQ y2;rw[<-Pe]at d⊢;have Ql:=Z B d;have Q:=Z W d;have R:=ac S d;clear d Pe B W S;refine aC ?_
   (refine ay (v:=?_) rfl ag (λs a=>?_) ?_;rotate_left;(have b0:=cell_of (i:=0) a.1 rfl;have b1:=cell_of (i:=1) a.1 rfl;have b2:=cell_of (i:=2) a.1 rfl;have f6:=cell_of a.2 Zo;go_simp;with_reducible rfl);refine L ?_)
   refine ai rfl (λK' t=>?_);go_simp;refine(WW _).mono ?_;rintro e _ ⟨rfl,rfl⟩;refine t _ _ ⟨Ql,Q⟩ λ_=>?_
   clear t;refine L ?_;iterate 2 refine aC ?_
   iterate 14 refine gB ?_
   iterate 2 refine aC ?_
   iterate 2 refine gB ?_
   refine ai rfl (λK' t=>?_);rw[if_neg (o4.1 ag)];refine t _ _ ⟨Ql,Q⟩ λ_=>?_
   clear t;refine L ?_;refine gB ?_;refine aC ?_;refine jv ?_
   go_wp2_with fail
   go_ret;exact⟨rfl,R⟩
  |true=>
  by_cases Uu:k=0
  ·have b6:=ar ((0:Int)<(k:Int))
   have b7:=ar (0<k);have ad:=O Uu;clear Uu;refine jU ?_;refine aY (λs=>s.heap[E]?=T (hK #[I N M,I N F,hH U m V] 75 (0,0))/\s.heap[b]?=T (hK aa 31 (0,0))) (.take 0 (.take 1 (.one 2 (.take 3 (.take 4 (.take 5 (.take 6 (.take 7 (.take 8 (.take 9 (.take 10 (.take 11 (.take 12 (.take 13 (.take 14 (.take 15 (.take 16 (.take 17 (.take 18 (.take 19 (.take 20 (.take 21 (.take 22 (.one 23 (.take 24 (.take 25 .done)))))))))))))))))))))))))) ae ae ae G (λ_ _ _ _ h=>h) ⟨B,W⟩ ?_;obtain⟨z0,Pe⟩:=J y2.drew;have d:=aQ y2;rw[<-Pe]at d⊢;have Ql:=Z B d;have Q:=Z W d;have R:=ac S d;clear d Pe B W S;refine aC ?_
   (refine ay (v:=?_) rfl ag (λs a=>?_) ?_;rotate_left;(have b0:=cell_of (i:=0) a.1 rfl;have b1:=cell_of (i:=1) a.1 rfl;have b2:=cell_of (i:=2) a.1 rfl;have f6:=cell_of a.2 Zo;go_simp;with_reducible rfl);refine L ?_)
   refine ai rfl (λK' t=>?_);go_simp;refine(WW _).mono ?_;rintro e _ ⟨rfl,rfl⟩;refine t _ _ ⟨Ql,Q⟩ λ_=>?_
   clear t;refine L ?_;iterate 5 refine aC ?_
   iterate 10 refine gB ?_
   iterate 4 refine aC ?_
   (refine ay (v:=?_) rfl ag (λs a=>?_) ?_;rotate_left;(have b0:=cell_of (i:=0) a.1 rfl;have b1:=cell_of (i:=1) a.1 rfl;have b2:=cell_of (i:=2) a.1 rfl;have f6:=cell_of a.2 Zo;go_simp;with_reducible rfl);refine L ?_)
   refine ai rfl (λK' t=>?_);rw[if_pos ag];go_simp;refine(Zn z0).mono ?_;rintro e z1 ⟨rfl,d⟩;have Sl:=Z Ql d;have X:=Z Q d;have H:=ac R d;clear Ql Q R;clear d;refine t _ _ ⟨Sl,X⟩ λ_=>?_
   clear t;refine L ?_;iterate 2 refine aC ?_
   refine jv ?_;clear Zn
   by_cases n:u=0
   ·have a1:(u !=0)=false:=by simpa using n
    have a2:(u==0)=true:=by simpa using n
    have bc:hQ (rP ⟨M,F,xb⟩):=O ⟨of_decide_eq_true WB.symm,by rw[<-HM];exact nh.1 (Q3.symm.trans n)⟩;have a3:hQ (iS (c.wel.take (k+1))):=O (by rw[Tf];exact bf.snoc bc (by exact .inl (by rw[ad];rfl)));clear n
    go_wp2_with fail
    exact⟨⟨k+1,by go_num,by omega,a3,X,H⟩,by simp only[ji];omega⟩
   have a1:(u !=0)=true:=by simpa using n
   have a2:(u==0)=false:=by simpa using n
   obtain rfl:r=220:=by rw[C];exact dM λh=>n (by rw[Q3,HM];exact nh.2 (h.wel _ (jw UN)).2)
   clear n
   go_wp2_with fail
   go_ret;exact⟨rfl,H⟩
  have b6:=ap ((0:Int)<(k:Int));have b7:=ap (0<k);obtain⟨j,hj⟩:=J (k-1);have bb:k=j+1:=Y;have b9:mz.wrap ((k:Int)-1)=(j:Int):=by rw[bb,show(((j+1:Nat):Int)-1)=(j:Int) by omega];exact IntWalk.i64_in _ Y
  have T4:=ap ((j:Int)<(P:Int));have ca:=ap (j<P);have cd:decide ((0:Int)<=(j:Int))=true:=by simp
  have ce:j<P:=Y;obtain⟨y,K⟩:∃y,c.wel[j]?=T y:=⟨_,jD (by rw[<-Tu];omega)⟩;obtain⟨pd,bl⟩:=J y.dev;have SL:hQ (y2.cell? ⟨g,o+j*3,hF⟩=T (I N pd)):=O (by rw[bl];exact cell_below (b5 j y K) S);have HY:=O K;have bs:=O bl;have ad:=O bb;clear Uu hj bb K bl
  by_cases bb:M<=pd
  ·have bl:decide (M<=pd)=true:=by simpa using bb
   obtain rfl:r=220:=by
    rw[C];refine dM λh=>?_
    have h2:=h.inc k (aw ad) (by rw[<-Tu];exact ba);rw[show k-1=j by have:=ad.out;omega]at h2;rw[show(c.wel.map Wl.dev).getD j 0=pd by rw[bs];simp[jC,HY.out],show(c.wel.map Wl.dev).getD k 0=M by simp[jC,UN.out]]at h2;omega
   clear bb;refine jU ?_;refine aY (λs=>s.heap[E]?=T (hK #[I N M,I N F,hH U m V] 75 (0,0))/\s.heap[b]?=T (hK aa 31 (0,0))/\s.cell? ⟨g,o+j*3,hF⟩=T (I N pd)) (.take 0 (.take 1 (.one 2 (.take 3 (.take 4 (.take 5 (.take 6 (.take 7 (.take 8 (.take 9 (.take 10 (.take 11 (.take 12 (.take 13 (.take 14 (.take 15 (.take 16 (.take 17 (.take 18 (.take 19 (.take 20 (.take 21 (.take 22 (.one 23 (.take 24 (.take 25 .done)))))))))))))))))))))))))) ae ae ae G (λ_ _ _ _ h=>h) ⟨B,W,SL⟩ ?_;obtain⟨z0,Pe⟩:=J y2.drew;have d:=aQ y2;rw[<-Pe]at d⊢;have Ql:=Z B d;have Q:=Z W d;have R:=ac S d;have WQ:=O (cell_below SL d);clear d Pe B W S SL;refine aC ?_
   (refine ay (v:=?_) rfl ag (λs a=>?_) ?_;rotate_left;(have b0:=cell_of (i:=0) a.1 rfl;have b1:=cell_of (i:=1) a.1 rfl;have b2:=cell_of (i:=2) a.1 rfl;have f6:=cell_of a.2.1 Zo;have p0:=a.2.2;go_simp;with_reducible rfl);refine L ?_)
   refine ai rfl (λK' t=>?_);go_simp;refine(WW _).mono ?_;rintro e _ ⟨rfl,rfl⟩;refine t _ _ ⟨Ql,Q,WQ⟩ λ_=>?_
   clear t;refine L ?_;iterate 6 refine aC ?_
   (refine ay (v:=?_) rfl ag (λs a=>?_) ?_;rotate_left;(have b0:=cell_of (i:=0) a.1 rfl;have b1:=cell_of (i:=1) a.1 rfl;have b2:=cell_of (i:=2) a.1 rfl;have f6:=cell_of a.2.1 Zo;have p0:=a.2.2;go_simp;with_reducible rfl);refine L ?_)
   iterate 4 refine aC ?_
   (refine ay (v:=?_) rfl ag (λs a=>?_) ?_;rotate_left;(have b0:=cell_of (i:=0) a.1 rfl;have b1:=cell_of (i:=1) a.1 rfl;have b2:=cell_of (i:=2) a.1 rfl;have f6:=cell_of a.2.1 Zo;have p0:=a.2.2;go_simp;with_reducible rfl);refine L ?_)
   refine aC ?_
   (refine ay (v:=?_) rfl ag (λs a=>?_) ?_;rotate_left;(have b0:=cell_of (i:=0) a.1 rfl;have b1:=cell_of (i:=1) a.1 rfl;have b2:=cell_of (i:=2) a.1 rfl;have f6:=cell_of a.2.1 Zo;have p0:=a.2.2;go_simp;with_reducible rfl);refine L ?_)
   iterate 4 refine aC ?_
   iterate 2 refine gB ?_
   refine ai rfl (λK' t=>?_);rw[if_neg (o4.1 ag)];refine t _ _ ⟨Ql,Q,WQ⟩ λ_=>?_
   clear t;refine L ?_;refine gB ?_;refine aC ?_;refine jv ?_
   go_wp2_with fail
   go_ret;exact⟨rfl,R⟩
  have bl:decide (M<=pd)=false:=by simpa using bb
  have WL:hQ (pd<M):=O Y;clear bb;refine jU ?_;refine aY (λs=>s.heap[E]?=T (hK #[I N M,I N F,hH U m V] 75 (0,0))/\s.heap[b]?=T (hK aa 31 (0,0))/\s.cell? ⟨g,o+j*3,hF⟩=T (I N pd)) (.take 0 (.take 1 (.one 2 (.take 3 (.take 4 (.take 5 (.take 6 (.take 7 (.take 8 (.take 9 (.take 10 (.take 11 (.take 12 (.take 13 (.take 14 (.take 15 (.take 16 (.take 17 (.take 18 (.take 19 (.take 20 (.take 21 (.take 22 (.one 23 (.take 24 (.take 25 .done)))))))))))))))))))))))))) ae ae ae G (λ_ _ _ _ h=>h) ⟨B,W,SL⟩ ?_;obtain⟨z0,Pe⟩:=J y2.drew;have d:=aQ y2;rw[<-Pe]at d⊢;have Ql:=Z B d;have Q:=Z W d;have R:=ac S d;have WQ:=O (cell_below SL d);clear d Pe B W S SL;refine aC ?_
  (refine ay (v:=?_) rfl ag (λs a=>?_) ?_;rotate_left;(have b0:=cell_of (i:=0) a.1 rfl;have b1:=cell_of (i:=1) a.1 rfl;have b2:=cell_of (i:=2) a.1 rfl;have f6:=cell_of a.2.1 Zo;have p0:=a.2.2;go_simp;with_reducible rfl);refine L ?_)
  refine ai rfl (λK' t=>?_);go_simp;refine(WW _).mono ?_;rintro e _ ⟨rfl,rfl⟩;refine t _ _ ⟨Ql,Q,WQ⟩ λ_=>?_
  clear t;refine L ?_;iterate 6 refine aC ?_
  (refine ay (v:=?_) rfl ag (λs a=>?_) ?_;rotate_left;(have b0:=cell_of (i:=0) a.1 rfl;have b1:=cell_of (i:=1) a.1 rfl;have b2:=cell_of (i:=2) a.1 rfl;have f6:=cell_of a.2.1 Zo;have p0:=a.2.2;go_simp;with_reducible rfl);refine L ?_)
  iterate 4 refine aC ?_
  (refine ay (v:=?_) rfl ag (λs a=>?_) ?_;rotate_left;(have b0:=cell_of (i:=0) a.1 rfl;have b1:=cell_of (i:=1) a.1 rfl;have b2:=cell_of (i:=2) a.1 rfl;have f6:=cell_of a.2.1 Zo;have p0:=a.2.2;go_simp;with_reducible rfl);refine L ?_)
  refine aC ?_
  (refine ay (v:=?_) rfl ag (λs a=>?_) ?_;rotate_left;(have b0:=cell_of (i:=0) a.1 rfl;have b1:=cell_of (i:=1) a.1 rfl;have b2:=cell_of (i:=2) a.1 rfl;have f6:=cell_of a.2.1 Zo;have p0:=a.2.2;go_simp;with_reducible rfl);refine L ?_)
  iterate 5 refine aC ?_
  (refine ay (v:=?_) rfl ag (λs a=>?_) ?_;rotate_left;(have b0:=cell_of (i:=0) a.1 rfl;have b1:=cell_of (i:=1) a.1 rfl;have b2:=cell_of (i:=2) a.1 rfl;have f6:=cell_of a.2.1 Zo;have p0:=a.2.2;go_simp;with_reducible rfl);refine L ?_)
  refine ai rfl (λK' t=>?_);rw[if_pos ag];go_simp;refine(Zn z0).mono ?_;rintro e z1 ⟨rfl,d⟩;have Sl:=Z Ql d;have X:=Z Q d;have H:=ac R d;have a:=O (cell_below WQ d);clear Ql Q R WQ;clear d;refine t _ _ ⟨Sl,X,a⟩ λ_=>?_
  clear t;refine L ?_;iterate 2 refine aC ?_
  refine jv ?_;clear Zn
  by_cases n:u=0
  ·have a1:(u !=0)=false:=by simpa using n
   have a2:(u==0)=true:=by simpa using n
   have bc:hQ (rP ⟨M,F,xb⟩):=O ⟨of_decide_eq_true WB.symm,by rw[<-HM];exact nh.1 (Q3.symm.trans n)⟩;have a3:hQ (iS (c.wel.take (k+1))):=O (by rw[Tf];exact bf.snoc bc (by exact .inr ⟨y,by rw[qD,Nat.min_eq_left (by rw[<-Tu];omega),show k-1=j by have:=ad.out;omega,qW (aw ad)];exact HY,by rw[<-bs];exact WL⟩));clear n
   go_wp2_with fail
   exact⟨⟨k+1,by go_num,by omega,a3,X,H⟩,by simp only[ji];omega⟩
  have a1:(u !=0)=true:=by simpa using n
  have a2:(u==0)=false:=by simpa using n
  obtain rfl:r=220:=by rw[C];exact dM λh=>n (by rw[Q3,HM];exact nh.2 (h.wel _ (jw UN)).2)
  clear n
  go_wp2_with fail
  go_ret;exact⟨rfl,H⟩
 have bh:=ar ((k:Int)<(P:Int));have bk:=ar (k<P);obtain rfl:k=P:=Y;have a:hQ (iS c.wel):=O (by have h:=bf.out;rw[jB (by rw[<-Tu];exact je _)]at h;exact h);have g:hQ (eG c):=O ⟨by rw[<-bm];exact of_decide_eq_true bo.symm,by rw[<-RE];have:=Sl.out;have:=B.out;omega,by rw[<-ZZ];exact of_decide_eq_true bq.symm,
  mo.1 br.symm,bd.symm,by rw[<-Wm];exact a4,by rw[<-Tu];exact a5,λp i=>by
   obtain⟨j,hj,rfl⟩:=qn i;have h:=bT j (by rw[bd];exact hj);rw[eh _ hj]at h;exact h,Za,a.each,a.inc⟩
 obtain rfl:r=0:=by rw[C];exact oD g
 clear bf
 go_wp2_with fail
 go_ret;exact⟨rfl,z⟩
theorem eW{w w':hU}{x:Val}{c:hZ}(h:ao (·<w.heap.size) w x c)(d:ic w w w'):ao (·<w'.heap.size) w' x c:=
 ao.mono (λb (a:b<w.heap.size)=>jz a d.size) _ _ (ao.keep (λb a=>d.block b a) _ _ h)
theorem oT{w w':hU}{v:hZ}{l:List Int}(h:cC w v l)(a:ic w w w'):cC w' v l:=by
 obtain⟨p,c,b,d,f⟩:=h;refine⟨p,c,b,d,λi=>?_⟩;obtain⟨g,o,e,k⟩:=f i;exact⟨g,o,e,λj m=>cell_below (k j m) a⟩
def grp:List Val->List hZ->List (List hZ)
 |x::xs,a::b=>ee x a::grp xs b
 |_,_=>[]
theorem o5:∀(l:List Val) (a:List hZ),(grp l a).flatten=aW l a
 |[],a=>by cases a<;>simp[grp,aW]
 |x::l,[]=>by simp[grp,aW]
 |x::l,b::a=>by simp[grp,aW,o5 l a]
theorem wG:∀(l:List Val) (a:List hZ),a.length=l.length->(grp l a).length=l.length
 |[],a,h=>by cases a<;>simp[grp]
 |x::l,[],h=>by simp at h
 |x::l,b::a,h=>by simp[grp,wG l a (by simpa using h)]
theorem uC{D:Nat->Prop}{w:hU}:∀{l:List Val} {a:List hZ},ax D w l a->∀e∈grp l a,∀b∈e,b.oneCell'=true
 |[],a,h,e,he,b,d=>by cases a<;>simp[grp]at he
 |x::l,a,h,e,he,b,d=>by
  rw[ax]at h;obtain⟨v,i,rfl,f,g⟩:=h;simp only[grp,jm]at he
  rcases he with rfl|he
  ·obtain⟨p,c,rfl⟩:=f.form
   simp only[ee,jm,j4,or_false]at d
   rcases d with rfl|rfl|rfl|rfl<;>rfl
  exact uC g e he b d
theorem pD(s:Nat)(a c:List Val)(k l:Option jp)(m n o p:Nat)(w:hU)(C:ao (·<w.heap.size) w (vL a) (hH k m n))(D:ao (·<w.heap.size) w (vL c) (hH l o p))
 (t:w.heap[s]?=T (hK #[hH k m n,hH l o p] 41 (0,0))) (E:a.length+c.length<=1000000):
 ja ih 106 #[hH (T ⟨s,0,hF⟩) 2 2] w λe w'=>∃v,e=jb v/\ao (·<w'.heap.size) w' (vL (a++c)) v/\ic w w w':=by
 obtain⟨d,u,j⟩:=C.slice;obtain⟨f,x,q⟩:=D.slice;replace j:ax (·<w.heap.size) w a d:=j;replace q:ax (·<w.heap.size) w c f:=q;replace u:ah (·<w.heap.size) w (hH k m n) 4 a.length (aW a d):=u;replace x:ah (·<w.heap.size) w (hH l o p) 4 c.length (aW c f):=x;have y:=wG _ _ j.len;have z:=wG _ _ q.len;have F:oN w (hH k m n) (grp a d):=by unfold oN;rw[y,o5];exact u.row
 have H:oN w (hH l o p) (grp c f):=by unfold oN;rw[z,o5];exact x.row
 have B:[grp a d,grp c f].flatten=grp a d++grp c f:=by simp
 have K:∀e∈[grp a d,grp c f].flatten,∀r∈e,r.oneCell'=true:=by
  intro e he r b;rw[B]at he
  rcases jG.1 he with h|h
  ·exact uC j e h r b
  exact uC q e h r b
 refine(LN s 2 41 [hH k m n,hH l o p] [grp a d,grp c f] rfl rfl (by rw[B,jk,y,z];exact E) w t (λi b=>by match i,b with|0,_=>exact F|1,_=>exact H) G K).mono ?_;rintro e w' ⟨M,rfl,i,h⟩;refine⟨M,rfl,?_,h⟩;rw[B,jk,y,z,List.flatten_append,o5,o5,<-m8 _ _ _ _ j.len,<-jk]at i;rw[vL,ao];refine⟨d++f,ah.of_own i (λg t=>(i.lt g t).2),ax.append ?_ ?_⟩
 ·exact ax.mono (λb (g:b<w.heap.size)=>jz g h.size) _ _ (ax.keep (λb g=>h.block b g) _ _ j)
 exact ax.mono (λb (g:b<w.heap.size)=>jz g h.size) _ _ (ax.keep (λb g=>h.block b g) _ _ q)
theorem Km{a:Act}{o:Oper}{x:Operand}{c:Array hZ}{b:Nat}{d:hU}(e:c.size=73)(f:o.op=.load 31 x)(g:a.eval x=jd (T ⟨b,0,hF⟩))(i:d.heap[b]?=T (hK c 31 (0,0))):
 (execOp a.eval o).run ih d=.ok (.value (ii c)) d:=by
 have h:=oY (P:=ih) o a 31 x f b 0 g c.toList _ (sO (t:=31) (l:=c.toList) (by simpa using i)) qL rfl (by rw[qE,e];exact dZ)
 simpa using h
def mh(c:Cmt)(a:ByteArray)(nums:List Int):LBy:=cM a ((aA c).take 4++nums.map vI)
theorem A4(c:Cmt)(q:CQ)(n:ByteArray)(nums:List Int)(v:hZ)(w:hU)(j:n.size<=1000)(a:az (·<w.heap.size) w c q)(hI:cC w v nums)(hn:nums.length<=1000)
 (hl:c.chg.length<=1000000/\c.path.length<=1000000/\c.box.length<=1000000/\c.wel.length<=1000000) (k:dy ((aA c).take 4++nums.map vI)) (l:cJ w):
 ja ih 45 #[ii (aj c q).toArray,.string n,v] w λe w'=>∃D,e=jb (hH (T ⟨D,0,hF⟩) 32 32)/\BytesAt w' (hH (T ⟨D,0,hF⟩) 32 32) (mh c n nums)/\ic w w w':=by
 obtain⟨l1,l2,l3,l4⟩:=hl;have m:=O a;have PK:=O k;have HT:=O l;have We:=O j;have o:=O hI;obtain⟨pv,cv,rfl,-,-⟩:=hI;obtain⟨Pl,d⟩:=J ((aj c q).toArray);rw[<-d];have R0:=O d;have p:Pl.size=73:=by rw[d,jr,eA c q a.plen a.clen]
 have SG:=O p;have S:=jg w (hK Pl 31);have f:=af w (hK Pl 31);obtain⟨W1,g⟩:=J (w.alloc (hK Pl 31));obtain⟨b,h⟩:=J w.heap.size;rw[<-g]at f S;rw[<-h]at S;have i:=O f;have r:=O S;have s:=O g;have TN:=O h;clear f g h S d p a k l j
 go_enter func45,ntmps45
 go_upto_region 1 with fail
 rw[<-s,<-TN];clear s;have O6:hQ (ic w w W1.drew):=O (i.trans ((aQ W1).mono i.size));have Uc:hQ (W1.drew.heap[b]?=T (hK Pl 31 (0,0))):=O r;have Pm:hQ (az (·<W1.drew.heap.size) W1.drew c q):=O (m.below O6);have SP:hQ (cC W1.drew (hH pv nums.length cv) nums):=O (oT o O6);clear i r m o;refine jU ?_;refine aY (λa=>a.heap[b]?=T (hK Pl 31 (0,0))) (.take 0 (.take 1 (.take 4 (.two 2 9 (.take 3 (.two 5 9 (.two 6 9 (.two 7 9 (.two 8 9 (.one 9 (.one 10 .done)) (.one 8 (.one 10 .done))) (.one 7 (.one 8 (.one 10 .done)))) (.one 6 (.one 7 (.one 8 (.one 10 .done))))) (.one 5 (.one 6 (.one 7 (.one 8 (.one 10 .done))))))) (.one 2 (.take 3 (.one 5 (.one 6 (.one 7 (.one 8 (.one 10 .done))))))))))) ae ae ae G (λ_ _ _ _ h=>h) Uc ?_;generalize W1.drew=x0 at O6 Uc Pm SP⊢;refine aP ?_
 (refine ay (v:=ii Pl) rfl ag (λa d=>Km SG rfl rfl d) ?_;refine L ?_)
 refine aP ?_;refine gx ?_ ?_
 ·refine ai rfl (λk d=>?_)
  go_simp;rw[R0];refine(nH c q x0 Pm l1 l2 l3 l4).mono ?_;rintro e x1 ⟨v,rfl,a1,a⟩;obtain⟨E,o,rfl,RU⟩:∃g o,v=hH (T ⟨g,0,hF⟩) 11 o/\11<=o:=by
   obtain⟨us,ho,-⟩:=a1;obtain⟨g,c,h1,h2,-⟩:=sy ho G;exact⟨g,c,h1,h2⟩
  have bb:∀W,(Instr.sliceAt 41 (hH (T ⟨E,0,hF⟩) 11 o) hF (T (I N 4)) hF).run ih W=.ok (hH (T ⟨E,0,hF⟩) 4 o) W:=λW=>sZ 41 43 4 underlying41 tw E 0 11 o 4 Y W
  have OZ:=ac O6 a;have UO:=Z Uc a;have R2:=O (oT SP a);clear O6 Uc Pm SP;clear a;have a2:=O (a1.val 4 G).2;clear a1;rw[<-R0];refine d _ _ UO.out λ_=>?_
  clear d;refine L ?_;refine aP ?_;refine gx ?_ ?_
  ·refine ai rfl (λk d=>?_)
   go_simp;refine(pI nums _ x1 R2 Y).mono ?_;rintro e x2 ⟨ba,rfl,U,a⟩;obtain⟨V,X,rfl⟩:=aL U;have au:=lR (D:=(·<x2.heap.size)) U (λg i=>(U.lt g i).2);have O4:=ac OZ a;have Q2:=Z UO a;have al:=O (eW a2 a);clear OZ UO R2 a2;have a3:=O au;clear a U au;refine d _ _ Q2.out λ_=>?_
   clear d;refine L ?_;refine gx ?_ ?_
   ·refine ai rfl (λk d=>?_)
    go_simp;have a:=af x2 (hK #[hH (T ⟨E,0,hF⟩) 4 o,hH V nums.length X] 41);have f:=jg x2 (hK #[hH (T ⟨E,0,hF⟩) 4 o,hH V nums.length X] 41);obtain⟨B,l⟩:=J (x2.alloc (hK #[hH (T ⟨E,0,hF⟩) 4 o,hH V nums.length X] 41));rw[<-l]at a f⊢;obtain⟨gl,i⟩:=J x2.heap.size;rw[<-i]at f⊢;have a5:=O i;clear i;have O8:=ac O4 a;have K:=Z Q2 a;have Zq:=O (eW al a);have Zp:=O (eW a3 a);clear O4 Q2 al a3;have TC:=O f;clear f;clear l a;refine d _ _ K.out λ_=>?_
    clear d;refine L ?_;refine gx ?_ ?_
    ·refine ai rfl (λk d=>?_)
     go_simp;refine(pD gl ((aA c).take 4) (nums.map vI) _ _ _ _ _ _ B Zq Zp TC.out (by rw[jc];exact jh (km (j0 _ _) hn) G)).mono ?_;rintro e x4 ⟨vc,rfl,F,a⟩;obtain⟨pc,a4,rfl⟩:=F.form;have H:=ac O8 a;have C:=Z K a;clear O8 K Zq Zp TC;have aa:=O F;clear a F;refine d _ _ C.out λ_=>?_
     clear d;refine L ?_;refine gx ?_ ?_
     ·refine ai rfl (λk d=>?_)
      go_simp;refine(kN n We ((aA c).take 4++nums.map vI) _ x4 aa PK (HT.below H).num (HT.below H).start).mono ?_;rintro e x5 ⟨rfl,a⟩;have r:((cM n ((aA c).take 4++nums.map vI)).map v8).toArray.size=32:=by rw[jr,jc,dJ]
      have s:=dA (cM n ((aA c).take 4++nums.map vI));obtain⟨j,t⟩:=J (((cM n ((aA c).take 4++nums.map vI)).map v8).toArray);rw[<-t]at r s⊢;have P9:=O t;have M:=O r;have PZ:=O s;clear t r s;have m:=ac H a;have p:=Z C a;clear H C aa;clear a;refine d _ _ p.out λ_=>?_
      clear d;refine L ?_;refine ai rfl (λk d=>?_);go_simp;have a:=af x5 (hK aI 23);have f:=jg x5 (hK aI 23);obtain⟨u,l⟩:=J (x5.alloc (hK aI 23));rw[<-l]at a f⊢;obtain⟨D,i⟩:=J x5.heap.size;rw[<-i]at f⊢;have P:=O i;clear i;have Qf:=ac m a;have Q:=Z p a;have R:=O f;have Rb:hQ (w.heap.size<=D):=O (by rw[P];exact m.size);have YD:hQ (b<D):=O (by rw[P];exact(jq.1 p).1);clear f l a;clear m p;refine d _ _ Q.out λ_=>?_
      clear d;refine L ?_;refine ai rfl (λk d=>?_);rw[if_pos ag];refine jK 23 _ _ rfl D j rfl rfl 23 _ R.out (by rw[M];rfl) (by rw[M];simp) PZ (d _ _ ((jJ _ _ _ _ (aw YD)).trans Q) λ_=>?_);clear d;have x:(u.setRow D j).heap[D]?=T (hK j 23 (0,0)):=jL _ _ _ _ _ _ R.out;have y:ic w w (u.setRow D j):=jM Qf Rb _;generalize u.setRow D j=z at x y⊢;have Rs:=O x;have Qg:=O y;clear x y;refine L ?_;refine jv ?_
      go_wp2_with fail
      go_ret;have h:=Rs.out;rw[P9]at h;have S:=lV h (dJ _ _);refine⟨D,rfl,?_,Qg⟩;exact S
     refine ai rfl (λk d=>?_);go_simp;have a:=af x4 (hK aI 23);have f:=jg x4 (hK aI 23);obtain⟨x5,l⟩:=J (x4.alloc (hK aI 23));rw[<-l]at a f⊢;obtain⟨D,i⟩:=J x4.heap.size;rw[<-i]at f⊢;have P:=O i;clear i;have m:=ac H a;have p:=Z C a;have YG:=O (eW aa a);have YF:=O f;have Rb:hQ (w.heap.size<=D):=O (by rw[P];exact H.size);have YD:hQ (b<D):=O (by rw[P];exact(jq.1 C).1);clear f l a;clear H C aa;refine d _ _ p.out λ_=>?_
     clear d;refine L ?_;refine ai rfl (λk d=>?_);go_simp;refine(kN n We ((aA c).take 4++nums.map vI) _ x5 YG PK (HT.below m).num (HT.below m).start).mono ?_;rintro e u ⟨rfl,a⟩;have r:((cM n ((aA c).take 4++nums.map vI)).map v8).toArray.size=32:=by rw[jr,jc,dJ]
     have s:=dA (cM n ((aA c).take 4++nums.map vI));obtain⟨j,t⟩:=J (((cM n ((aA c).take 4++nums.map vI)).map v8).toArray);rw[<-t]at r s⊢;have P9:=O t;have M:=O r;have PZ:=O s;clear t r s;have Qf:=ac m a;have Q:=Z p a;have R:=Z YF a;clear m p YG YF;clear a;refine d _ _ Q.out λ_=>?_
     clear d;refine L ?_;refine ai rfl (λk d=>?_);rw[if_pos ag];refine jK 23 _ _ rfl D j rfl rfl 23 _ R.out (by rw[M];rfl) (by rw[M];simp) PZ (d _ _ ((jJ _ _ _ _ (aw YD)).trans Q) λ_=>?_);clear d;have x:(u.setRow D j).heap[D]?=T (hK j 23 (0,0)):=jL _ _ _ _ _ _ R.out;have y:ic w w (u.setRow D j):=jM Qf Rb _;generalize u.setRow D j=z at x y⊢;have Rs:=O x;have Qg:=O y;clear x y;refine L ?_;refine jv ?_
     go_wp2_with fail
     go_ret;have h:=Rs.out;rw[P9]at h;have S:=lV h (dJ _ _);refine⟨D,rfl,?_,Qg⟩;exact S
    refine ai rfl (λk d=>?_);go_simp;have a:=af B (hK aI 23);have f:=jg B (hK aI 23);obtain⟨x4,l⟩:=J (B.alloc (hK aI 23));rw[<-l]at a f⊢;obtain⟨D,i⟩:=J B.heap.size;rw[<-i]at f⊢;have P:=O i;clear i;have H:=ac O8 a;have C:=Z K a;have aa:=O (eW Zq a);have ad:=O (eW Zp a);have U3:=Z TC a;have Ra:=O f;have Rb:hQ (w.heap.size<=D):=O (by rw[P];exact O8.size);have YD:hQ (b<D):=O (by rw[P];exact(jq.1 K).1);clear f l a;clear O8 K Zq Zp TC;refine d _ _ C.out λ_=>?_
    clear d;refine L ?_;refine ai rfl (λk d=>?_);go_simp;refine(pD gl ((aA c).take 4) (nums.map vI) _ _ _ _ _ _ x4 aa ad U3.out (by rw[jc];exact jh (km (j0 _ _) hn) G)).mono ?_;rintro e x5 ⟨vc,rfl,F,a⟩;obtain⟨pc,a4,rfl⟩:=F.form;have m:=ac H a;have p:=Z C a;have YF:=Z Ra a;clear H C aa ad U3 Ra;have YG:=O F;clear a F;refine d _ _ p.out λ_=>?_
    clear d;refine L ?_;refine ai rfl (λk d=>?_);go_simp;refine(kN n We ((aA c).take 4++nums.map vI) _ x5 YG PK (HT.below m).num (HT.below m).start).mono ?_;rintro e u ⟨rfl,a⟩;have r:((cM n ((aA c).take 4++nums.map vI)).map v8).toArray.size=32:=by rw[jr,jc,dJ]
    have s:=dA (cM n ((aA c).take 4++nums.map vI));obtain⟨j,t⟩:=J (((cM n ((aA c).take 4++nums.map vI)).map v8).toArray);rw[<-t]at r s⊢;have P9:=O t;have M:=O r;have PZ:=O s;clear t r s;have Qf:=ac m a;have Q:=Z p a;have R:=Z YF a;clear m p YF YG;clear a;refine d _ _ Q.out λ_=>?_
    clear d;refine L ?_;refine ai rfl (λk d=>?_);rw[if_pos ag];refine jK 23 _ _ rfl D j rfl rfl 23 _ R.out (by rw[M];rfl) (by rw[M];simp) PZ (d _ _ ((jJ _ _ _ _ (aw YD)).trans Q) λ_=>?_);clear d;have x:(u.setRow D j).heap[D]?=T (hK j 23 (0,0)):=jL _ _ _ _ _ _ R.out;have y:ic w w (u.setRow D j):=jM Qf Rb _;generalize u.setRow D j=z at x y⊢;have Rs:=O x;have Qg:=O y;clear x y;refine L ?_;refine jv ?_
    go_wp2_with fail
    go_ret;have h:=Rs.out;rw[P9]at h;have S:=lV h (dJ _ _);refine⟨D,rfl,?_,Qg⟩;exact S
   refine ai rfl (λk d=>?_);go_simp;have a:=af x2 (hK aI 23);have f:=jg x2 (hK aI 23);obtain⟨B,l⟩:=J (x2.alloc (hK aI 23));rw[<-l]at a f⊢;obtain⟨D,i⟩:=J x2.heap.size;rw[<-i]at f⊢;have P:=O i;clear i;have O8:=ac O4 a;have K:=Z Q2 a;have Zq:=O (eW al a);have Zp:=O (eW a3 a);have RV:=O f;have Rb:hQ (w.heap.size<=D):=O (by rw[P];exact O4.size);have YD:hQ (b<D):=O (by rw[P];exact(jq.1 Q2).1);clear f l a;clear O4 Q2 al a3;refine d _ _ K.out λ_=>?_
   clear d;refine L ?_;refine ai rfl (λk d=>?_);go_simp;have a:=af B (hK #[hH (T ⟨E,0,hF⟩) 4 o,hH V nums.length X] 41);have f:=jg B (hK #[hH (T ⟨E,0,hF⟩) 4 o,hH V nums.length X] 41);obtain⟨x4,l⟩:=J (B.alloc (hK #[hH (T ⟨E,0,hF⟩) 4 o,hH V nums.length X] 41));rw[<-l]at a f⊢;obtain⟨gl,i⟩:=J B.heap.size;rw[<-i]at f⊢;have a5:=O i;clear i;have H:=ac O8 a;have C:=Z K a;have aa:=O (eW Zq a);have ad:=O (eW Zp a);have Ra:=Z RV a;clear O8 K Zq Zp RV;have U3:=O f;clear f;clear l a;refine d _ _ C.out λ_=>?_
   clear d;refine L ?_;refine ai rfl (λk d=>?_);go_simp;refine(pD gl ((aA c).take 4) (nums.map vI) _ _ _ _ _ _ x4 aa ad U3.out (by rw[jc];exact jh (km (j0 _ _) hn) G)).mono ?_;rintro e x5 ⟨vc,rfl,F,a⟩;obtain⟨pc,a4,rfl⟩:=F.form;have m:=ac H a;have p:=Z C a;have YF:=Z Ra a;clear H C aa ad Ra U3;have YG:=O F;clear a F;refine d _ _ p.out λ_=>?_
   clear d;refine L ?_;refine ai rfl (λk d=>?_);go_simp;refine(kN n We ((aA c).take 4++nums.map vI) _ x5 YG PK (HT.below m).num (HT.below m).start).mono ?_;rintro e u ⟨rfl,a⟩;have r:((cM n ((aA c).take 4++nums.map vI)).map v8).toArray.size=32:=by rw[jr,jc,dJ]
   have s:=dA (cM n ((aA c).take 4++nums.map vI));obtain⟨j,t⟩:=J (((cM n ((aA c).take 4++nums.map vI)).map v8).toArray);rw[<-t]at r s⊢;have P9:=O t;have M:=O r;have PZ:=O s;clear t r s;have Qf:=ac m a;have Q:=Z p a;have R:=Z YF a;clear m p YF YG;clear a;refine d _ _ Q.out λ_=>?_
   clear d;refine L ?_;refine ai rfl (λk d=>?_);rw[if_pos ag];refine jK 23 _ _ rfl D j rfl rfl 23 _ R.out (by rw[M];rfl) (by rw[M];simp) PZ (d _ _ ((jJ _ _ _ _ (aw YD)).trans Q) λ_=>?_);clear d;have x:(u.setRow D j).heap[D]?=T (hK j 23 (0,0)):=jL _ _ _ _ _ _ R.out;have y:ic w w (u.setRow D j):=jM Qf Rb _;generalize u.setRow D j=z at x y⊢;have Rs:=O x;have Qg:=O y;clear x y;refine L ?_;refine jv ?_
   go_wp2_with fail
   go_ret;have h:=Rs.out;rw[P9]at h;have S:=lV h (dJ _ _);refine⟨D,rfl,?_,Qg⟩;exact S
  refine ai rfl (λk d=>?_);go_simp;have a:=af x1 (hK aI 23);have f:=jg x1 (hK aI 23);obtain⟨x2,l⟩:=J (x1.alloc (hK aI 23));rw[<-l]at a f⊢;obtain⟨D,i⟩:=J x1.heap.size;rw[<-i]at f⊢;have P:=O i;clear i;have O4:=ac OZ a;have Q2:=Z UO a;have SN:=O (oT R2 a);have al:=O (eW a2 a);have Sb:=O f;have Rb:hQ (w.heap.size<=D):=O (by rw[P];exact OZ.size);have YD:hQ (b<D):=O (by rw[P];exact(jq.1 UO).1);clear f l a;clear OZ UO R2 a2;refine d _ _ Q2.out λ_=>?_
  clear d;refine L ?_;refine ai rfl (λk d=>?_);go_simp;refine(pI nums _ x2 SN Y).mono ?_;rintro e B ⟨ba,rfl,U,a⟩;obtain⟨V,X,rfl⟩:=aL U;have au:=lR (D:=(·<B.heap.size)) U (λg i=>(U.lt g i).2);have O8:=ac O4 a;have K:=Z Q2 a;have Zq:=O (eW al a);have RV:=Z Sb a;clear O4 Q2 SN al Sb;have Zp:=O au;clear a U au;refine d _ _ K.out λ_=>?_
  clear d;refine L ?_;refine ai rfl (λk d=>?_);go_simp;have a:=af B (hK #[hH (T ⟨E,0,hF⟩) 4 o,hH V nums.length X] 41);have f:=jg B (hK #[hH (T ⟨E,0,hF⟩) 4 o,hH V nums.length X] 41);obtain⟨x4,l⟩:=J (B.alloc (hK #[hH (T ⟨E,0,hF⟩) 4 o,hH V nums.length X] 41));rw[<-l]at a f⊢;obtain⟨gl,i⟩:=J B.heap.size;rw[<-i]at f⊢;have a5:=O i;clear i;have H:=ac O8 a;have C:=Z K a;have aa:=O (eW Zq a);have Ra:=Z RV a;have ad:=O (eW Zp a);clear O8 K Zq RV Zp;have U3:=O f;clear f;clear l a;refine d _ _ C.out λ_=>?_
  clear d;refine L ?_;refine ai rfl (λk d=>?_);go_simp;refine(pD gl ((aA c).take 4) (nums.map vI) _ _ _ _ _ _ x4 aa ad U3.out (by rw[jc];exact jh (km (j0 _ _) hn) G)).mono ?_;rintro e x5 ⟨vc,rfl,F,a⟩;obtain⟨pc,a4,rfl⟩:=F.form;have m:=ac H a;have p:=Z C a;have YF:=Z Ra a;clear H C aa Ra ad U3;have YG:=O F;clear a F;refine d _ _ p.out λ_=>?_
  clear d;refine L ?_;refine ai rfl (λk d=>?_);go_simp;refine(kN n We ((aA c).take 4++nums.map vI) _ x5 YG PK (HT.below m).num (HT.below m).start).mono ?_;rintro e u ⟨rfl,a⟩;have r:((cM n ((aA c).take 4++nums.map vI)).map v8).toArray.size=32:=by rw[jr,jc,dJ]
  have s:=dA (cM n ((aA c).take 4++nums.map vI));obtain⟨j,t⟩:=J (((cM n ((aA c).take 4++nums.map vI)).map v8).toArray);rw[<-t]at r s⊢;have P9:=O t;have M:=O r;have PZ:=O s;clear t r s;have Qf:=ac m a;have Q:=Z p a;have R:=Z YF a;clear m p YF YG;clear a;refine d _ _ Q.out λ_=>?_
  clear d;refine L ?_;refine ai rfl (λk d=>?_);rw[if_pos ag];refine jK 23 _ _ rfl D j rfl rfl 23 _ R.out (by rw[M];rfl) (by rw[M];simp) PZ (d _ _ ((jJ _ _ _ _ (aw YD)).trans Q) λ_=>?_);clear d;have x:(u.setRow D j).heap[D]?=T (hK j 23 (0,0)):=jL _ _ _ _ _ _ R.out;have y:ic w w (u.setRow D j):=jM Qf Rb _;generalize u.setRow D j=z at x y⊢;have Rs:=O x;have Qg:=O y;clear x y;refine L ?_;refine jv ?_
  go_wp2_with fail
  go_ret;have h:=Rs.out;rw[P9]at h;have S:=lV h (dJ _ _);refine⟨D,rfl,?_,Qg⟩;exact S
 refine ai rfl (λk d=>?_);go_simp;have a:=af x0 (hK aI 23);have f:=jg x0 (hK aI 23);obtain⟨x1,l⟩:=J (x0.alloc (hK aI 23));rw[<-l]at a f⊢;obtain⟨D,i⟩:=J x0.heap.size;rw[<-i]at f⊢;have P:=O i;clear i;have OZ:=ac O6 a;have UO:=Z Uc a;have Pp:=O (Pm.below a);have R2:=O (oT SP a);have VV:=O f;have Rb:hQ (w.heap.size<=D):=O (by rw[P];exact O6.size);have YD:hQ (b<D):=O (by rw[P];exact(jq.1 Uc).1);clear f l a;clear O6 Uc Pm SP;refine d _ _ UO.out λ_=>?_
 clear d;refine L ?_;refine ai rfl (λk d=>?_);go_simp;rw[R0];refine(nH c q x1 Pp l1 l2 l3 l4).mono ?_;rintro e x2 ⟨v,rfl,a1,a⟩;obtain⟨E,o,rfl,RU⟩:∃g o,v=hH (T ⟨g,0,hF⟩) 11 o/\11<=o:=by
  obtain⟨us,ho,-⟩:=a1;obtain⟨g,c,h1,h2,-⟩:=sy ho G;exact⟨g,c,h1,h2⟩
 have bb:∀W,(Instr.sliceAt 41 (hH (T ⟨E,0,hF⟩) 11 o) hF (T (I N 4)) hF).run ih W=.ok (hH (T ⟨E,0,hF⟩) 4 o) W:=λW=>sZ 41 43 4 underlying41 tw E 0 11 o 4 Y W
 have O4:=ac OZ a;have Q2:=Z UO a;have SN:=O (oT R2 a);have Sb:=Z VV a;clear OZ UO Pp R2 VV;clear a;have al:=O (a1.val 4 G).2;clear a1;rw[<-R0];refine d _ _ Q2.out λ_=>?_
 clear d;refine L ?_;refine aP ?_;refine ai rfl (λk d=>?_);go_simp;refine(pI nums _ x2 SN Y).mono ?_;rintro e B ⟨ba,rfl,U,a⟩;obtain⟨V,X,rfl⟩:=aL U;have au:=lR (D:=(·<B.heap.size)) U (λg i=>(U.lt g i).2);have O8:=ac O4 a;have K:=Z Q2 a;have RV:=Z Sb a;have Zq:=O (eW al a);clear O4 Q2 SN Sb al;have Zp:=O au;clear a U au;refine d _ _ K.out λ_=>?_
 clear d;refine L ?_;refine ai rfl (λk d=>?_);go_simp;have a:=af B (hK #[hH (T ⟨E,0,hF⟩) 4 o,hH V nums.length X] 41);have f:=jg B (hK #[hH (T ⟨E,0,hF⟩) 4 o,hH V nums.length X] 41);obtain⟨x4,l⟩:=J (B.alloc (hK #[hH (T ⟨E,0,hF⟩) 4 o,hH V nums.length X] 41));rw[<-l]at a f⊢;obtain⟨gl,i⟩:=J B.heap.size;rw[<-i]at f⊢;have a5:=O i;clear i;have H:=ac O8 a;have C:=Z K a;have Ra:=Z RV a;have aa:=O (eW Zq a);have ad:=O (eW Zp a);clear O8 K RV Zq Zp;have U3:=O f;clear f;clear l a;refine d _ _ C.out λ_=>?_
 clear d;refine L ?_;refine ai rfl (λk d=>?_);go_simp;refine(pD gl ((aA c).take 4) (nums.map vI) _ _ _ _ _ _ x4 aa ad U3.out (by rw[jc];exact jh (km (j0 _ _) hn) G)).mono ?_;rintro e x5 ⟨vc,rfl,F,a⟩;obtain⟨pc,a4,rfl⟩:=F.form;have m:=ac H a;have p:=Z C a;have YF:=Z Ra a;clear H C Ra aa ad U3;have YG:=O F;clear a F;refine d _ _ p.out λ_=>?_
 clear d;refine L ?_;refine ai rfl (λk d=>?_);go_simp;refine(kN n We ((aA c).take 4++nums.map vI) _ x5 YG PK (HT.below m).num (HT.below m).start).mono ?_;rintro e u ⟨rfl,a⟩;have r:((cM n ((aA c).take 4++nums.map vI)).map v8).toArray.size=32:=by rw[jr,jc,dJ]
 have s:=dA (cM n ((aA c).take 4++nums.map vI));obtain⟨j,t⟩:=J (((cM n ((aA c).take 4++nums.map vI)).map v8).toArray);rw[<-t]at r s⊢;have P9:=O t;have M:=O r;have PZ:=O s;clear t r s;have Qf:=ac m a;have Q:=Z p a;have R:=Z YF a;clear m p YF YG;clear a;refine d _ _ Q.out λ_=>?_
 clear d;refine L ?_;refine ai rfl (λk d=>?_);rw[if_pos ag];refine jK 23 _ _ rfl D j rfl rfl 23 _ R.out (by rw[M];rfl) (by rw[M];simp) PZ (d _ _ ((jJ _ _ _ _ (aw YD)).trans Q) λ_=>?_);clear d;have x:(u.setRow D j).heap[D]?=T (hK j 23 (0,0)):=jL _ _ _ _ _ _ R.out;have y:ic w w (u.setRow D j):=jM Qf Rb _;generalize u.setRow D j=z at x y⊢;have Rs:=O x;have Qg:=O y;clear x y;refine L ?_;refine jv ?_
 go_wp2_with fail
 go_ret;have h:=Rs.out;rw[P9]at h;have S:=lV h (dJ _ _);refine⟨D,rfl,?_,Qg⟩;exact S
theorem zR(b:LBy):b.length<=(enc (vT b)).length:=by
 rw[vT,enc,if_neg G,if_pos rfl];simp only[jn,jk,m9];omega
theorem nP{l:List Val}{x:Val}(h:x∈l):(enc x).length<=(enc (vL l)).length:=by
 rw[gN];have:=uW h;simp only[jn,jk];omega
theorem dy.bodies{c:Cmt}(h:dy (aA c)):(∀b∈c.box,b.body.length<=800000)/\(∀b∈c.wel,b.body.length<=800000):=by
 have g:=h.len;refine⟨λb a=>?_,λb a=>?_⟩
 ·have d:(enc (vL (c.box.map Bx.val))).length<=(enc (vL (aA c))).length:=nP (by unfold aA;simp)
  have e:(enc b.val).length<=(enc (vL (c.box.map Bx.val))).length:=nP (jf.2 ⟨b,a,rfl⟩);have f:(enc (vT b.body)).length<=(enc b.val).length:=nP av;have:=zR b.body;omega
 have d:(enc (vL (c.wel.map Wl.val))).length<=(enc (vL (aA c))).length:=nP (by unfold aA;simp);have e:(enc b.val).length<=(enc (vL (c.wel.map Wl.val))).length:=nP (jf.2 ⟨b,a,rfl⟩);have f:(enc (vT b.body)).length<=(enc b.val).length:=nP av;have:=zR b.body;omega
theorem yu(c:Cmt):(eG c/\en c=0)\/(¬eG c/\en c=220):=by
 by_cases h:eG c
 ·exact .inl ⟨h,oD h⟩
 exact .inr ⟨h,dM h⟩
theorem uP(c:Cmt)(q:CQ)(w:hU)(f:az (·<w.heap.size) w c q)(a:dy (aA c)):
 ja ih 7 #[ii (aj c q).toArray] w λe w'=>e=jb (I N (en c))/\ic w w w':=
 B6 c q w f a.lens.1 a.lens.2.1 a.lens.2.2.1 a.lens.2.2.2 (λb d=>by have:=a.bodies.1 b d;omega) (λb d=>by have:=a.bodies.2 b d;omega)
def uz(c:Cmt)(w:hU)(e:Ending)(w':hU):Prop:=
 (eG c->∃v,e=jb (jl #[v,I N 0])/\w'.ownsRow w 5 1 v (enc (vL (aA c))).length ((enc (vL (aA c))).map v8))/\(¬eG c->e=jb (jl #[hH hF 0 0,I N 220]))/\ic w w w'
theorem rl(c:Cmt)(q:CQ)(w:hU)(e:az (·<w.heap.size) w c q)(a:dy (aA c)):
 ja ih 6 #[ii (aj c q).toArray] w (uz c w):=by
 have g:(ih.info? 31).map (·.size)=T (aj c q).toArray.size:=by rw[jr,eA c q e.plen e.clen];exact dZ
 have h:=λW i=>uP c q W i a
 have j:=λW i=>nH c q W i a.lens.1 a.lens.2.1 a.lens.2.2.1 a.lens.2.2.2
 have hk:=jg w (hK (aj c q).toArray 31);have d:=af w (hK (aj c q).toArray 31);have f:=e.below d;obtain⟨k,p⟩:=J ((aj c q).toArray);rw[<-p]at hk d f g h j⊢;obtain⟨M,l⟩:=J (w.alloc (hK k 31));obtain⟨b,m⟩:=J w.heap.size;rw[<-l]at hk d f;rw[<-m]at hk;have P:=O l;have Q:=O m;have n:=O hk;have r:=O d;have o:=O f;have u:=O g;have x:=O h;have R:=O j;have y:=O a;have z:=O (yu c);obtain⟨U,s⟩:=J (en c);rw[<-s]at x z;clear g h j hk d f p l m e a s
 go_enter func6,ntmps6
 go_upto_region 1 with fail
 rw[<-P,<-Q];refine lo ?_;refine lv rfl 31 _ rfl b rfl 31 k (0,0) _ n.out qL rfl u ?_
 go_wp2_with fail
 refine(x M o).mono ?_;rintro e S ⟨rfl,a⟩;have j:=Z n a;have l:=ac r a;have m:=O (az.below o a);clear n r o;clear a
 rcases z.out with⟨f,rfl⟩|⟨f,rfl⟩
 ·have o:=O f
  clear f
  go_wp2_with (refine lv rfl 31 _ rfl b rfl 31 k (0,0) _ j.out qL rfl u ?_)
  refine(R S m).mono ?_;rintro e B ⟨v,rfl,g,a⟩;have r:=O g;have V:=Z j a;have C:=ac l a;have X:=O (az.below m a);clear j l m;clear a g;obtain⟨D,nv,E,rfl⟩:∃p n s,v=hH p n s:=by obtain⟨us,g,-⟩:=r.out;obtain⟨p,s,h⟩:=aL g;exact⟨p,_,s,h⟩
  obtain⟨rfl,t⟩:=r.val 11 (je _);have F:=O t;clear t
  go_wp2_with fail
  refine(iY D 11 E B).mono ?_;rintro e t ⟨rfl,a⟩;have H:hQ (ao (·<t.heap.size) t (vL (aA c)) (hH D 11 E)):=O (ao.mono (λb (d:b<B.heap.size)=>jz d a.size) _ _ (ao.keep (λb d=>a.block b d) _ _ (by have h:=F.out;rw[jB (by rw[oW];omega)]at h;exact h)));have K:=ac C a;clear C;clear a F r
  go_wp2_with fail
  refine(vB (vL (aA c)) _ 3 t rfl y.wf H (a8 y.len)).mono ?_;rintro e F ⟨vb,rfl,g,a⟩;have r:=O (oL g (jh (je _) K.size));have C:=ac K a;clear a g H
  go_wp2_with fail
  go_ret2;exact⟨λ_=>⟨_,rfl,r⟩,λh=>absurd o h,C⟩
 have o:=O f;clear f
 go_wp2_with fail
 go_ret2;exact⟨λh=>absurd h o,λ_=>rfl,l⟩
theorem Hl{l:List Mem}{d:Int}(e:kt l)(h:cE l d=true):∃m,l[iV l d]?=T m/\l.find? (λm=>m.dev==d)=T m:=by
 obtain⟨m,b⟩:∃m,l.find? (λm=>m.dev==d)=T m:=by
  cases hf:l.find? (λm=>m.dev==d)with
  |some m=>exact⟨m,rfl⟩
  |none=>
   exfalso
   unfold cE at h;obtain⟨x,a,c⟩:=qd.1 h;exact absurd c (by have:=q9.1 hf x a;simpa using this)
 refine⟨m,?_,b⟩;have g:=List.mem_of_find?_eq_some b;have f:m.dev=d:=by have:=List.find?_some b;simpa using this
 obtain⟨i,a,he⟩:=qn g;have j:iV l d=i:=by
  refine wE d l i Y (λt k=>?_) (λt n c=>?_)
  ·have:=e t i k a
   rw[eh _ a,he,f]at this;exact this
  have:=ui e n c;rw[eh _ a,he,f]at this;exact this
 rw[j,jD a,he]
theorem CK(g:Grp)(vm vt S:hZ)(a:Int)(l:List Chg)(w:hU)(h:cS w g vm vt)(q:kt g.mem)(U:g.mem.length<=1000000)(v:EC.At w S l)(i:cE g.mem a=false->l≠[]):
 ja ih 38 #[ii (aB g vm vt).toArray,I N a,S] w λe w'=>e=jb (I N (dp g a l))/\ic w w w':=by
 have x:=mC (vm:=vm) (vt:=vt) h.llen;have s:=λW hW=>uj g vm vt a W hW q U h.llen
 have y:=de.new w (vm:=vm) (vt:=vt) h.llen;have hk:=y.blk;have f:=af w (hK (aB g vm vt).toArray 54);have j:=y.at.2.2.1;obtain⟨z,B,rfl,Ss,-⟩:=h.mem.form;obtain⟨pl,cl,rfl,RU,-⟩:=v.form;have k:=h.mem.below f;have m:=v.below f;obtain⟨C,D⟩:=J ((aB g (hH z g.mem.length B) vt).toArray);rw[<-D]at x s hk f j k m⊢;obtain⟨x0,c⟩:=J (w.alloc (hK C 54));obtain⟨b,E⟩:=J w.heap.size;rw[<-c]at hk f j k m;rw[<-E]at hk j;obtain⟨n,F⟩:=J l.length;obtain⟨t,u⟩:=J g.mem.length;rw[<-F]at m RU⊢;rw[<-u]at j k Ss U s;have HX:=O c;have RQ:=O E;have H:=O hk;have V:=O f;have K:=O k;have X:=O m;have Py:=O x;have M:=O s;have RY:=O i;have ad:=O q;have HN:=O F;have WU:=O u;have QU:=O (λh=>Hl (d:=a) q h);obtain⟨P,o⟩:=J (cE g.mem a);obtain⟨p,Q⟩:=J (iV g.mem a);rw[<-o,<-Q]at M;rw[<-o]at RY;rw[<-Q,<-o]at QU;have aa:=O o;have Yt:hQ (C[34]?=T (hH z t B)):=O (by rw[D,u];simpa using(lx (vm:=hH z g.mem.length B) (vt:=vt) h.llen).2.2.1);obtain⟨r,R⟩:=J (dp g a l);rw[<-R];have HR:=O R;clear x s y hk f k m D c E F u o Q h q v i j R
 go_enter func38,ntmps38
 go_upto_region 1 with fail
 rw[<-HX,<-RQ];refine lo ?_;refine lv rfl 54 _ rfl b rfl 54 C (0,0) _ H.out jV rfl Py ?_
 go_wp2_with fail
 refine(M x0 K).mono ?_;rintro e s ⟨rfl,f⟩;have y:=Z H f;have D:=O (K.below f);have E:=O (X.below f);have u:=ac V f;clear f M H K X V
 cases P with
 |true=>
  obtain⟨m,k,v⟩:=QU rfl;have F:p<t:=by rw[WU];exact(jY.1 k).1
  obtain⟨q,o,rfl,f⟩:=(D.cells).2.2 Y;have H:=cell_of y Yt;have x:s.cell? ⟨q,o+p*3+2,hF⟩=T (I N m.ver):=f p m k 2 _ rfl;have j:r=m.ver:=by rw[HR];unfold dp;rw[v]
  have K:=ap ((p:Int)<(t:Int));have M:=ap (p<t);rw[<-j]at x;clear f k v j
  go_wp2_with fail
  go_ret;exact⟨rfl,u⟩
 |false=>
  have i:=RY rfl;obtain⟨x,k,c⟩:∃x k,l=x::k:=by
   rcases l with _|⟨x,r⟩
   ·exact absurd rfl i
   exact⟨x,r,rfl⟩
  have F:0<n:=by rw[HN,c];simp
  obtain⟨q,o,rfl,f⟩:=(E.cells).2.2 F;have H:s.cell? ⟨q,o+3,hF⟩=T (I N x.v):=by
   have h:=f 0 x (by rw[c];rfl) 3 _ rfl;rw[Nat.zero_mul,Nat.add_zero]at h;exact h
  have v:g.mem.find? (λm=>m.dev==a)=hF:=by
   rw[q9];intro m P;have h:=aa.out;unfold cE at h;have:=oo.1 h.symm m P
   simpa using this
  have j:r=x.v:=by rw[HR];unfold dp;rw[v,c]
  rw[<-j]at H;clear f c v i j
  go_wp2_with fail
  go_ret;exact⟨rfl,u⟩
theorem GN(a c b d:Int)(f:Int)(g:Option jp)(i j:Nat)(w:hU):ja ih 51 #[ii #[I N a,I N c,I N f,hH g i j],ii #[I N b,I N d,I N 0,hH hF 0 0]] w λe w'=>e=jb (.bool ((a==b)&&(c==d)))/\ic w w w':=by
 have h:=(af w (hK #[I N a,I N c,I N f,hH g i j] 73)).trans ((af (w.alloc (hK #[I N a,I N c,I N f,hH g i j] 73)) (hK #[I N b,I N d,I N 0,hH hF 0 0] 73)).mono (af w _).size);have l:=O h;clear h
 by_cases h:a=b
 ·have k:(a==b)=true:=by simpa using h
  rw[k,Bool.true_and];clear h
  go_enter func51,ntmps51
  go_wp2_with fail
  go_ret;exact⟨rfl,l⟩
 have k:(a==b)=false:=by simpa using h
 rw[k,Bool.false_and];clear h
 go_enter func51,ntmps51
 go_wp2_with fail
 go_ret;exact⟨rfl,l⟩
theorem vO{D:Nat->Prop}(l:List Bx)(r:List (Int×Int))(v aa:hZ)(w:hU)(h:∃Q,ah D w v 4 l.length (cB Bx.cells l Q)/\bH D w (l.map Bx.body) Q)(a:EB0.At w aa r)(hl:l.length<=1000000)(hr:r.length<=1000000):
 ja ih 53 #[v,aa,.func (.func 51) #[] #[]] w λe w'=>e=jb (.bool (decide (l.map (λb:Bx=>(b.lev,b.node))=r.map (λx:Int×Int=>x))))/\ic w w w':=by
 obtain⟨V,f⟩:=J (decide (l.map (λb:Bx=>(b.lev,b.node))=r.map (λx:Int×Int=>x)));rw[<-f];have X:=O f;obtain⟨p,c,g⟩:∃p c,v=hH p l.length c:=by obtain⟨Q,h,-⟩:=h;exact h.form
 obtain⟨q,d,rfl,hd,-⟩:=a.form;obtain⟨n,i⟩:=J l.length;obtain⟨m,k⟩:=J r.length;have HU:=O h;have HV:=O a;have Q7:=O g;rw[g];have HN:=O i;have HM:=O k;rw[<-i]at hl⊢;rw[<-k]at hr hd HV⊢;have EG:∀args w,(callFunc 51 args).run ih w=.ok (.enter 51 args) w:=λ_ _=>rfl
 clear h a i k f g
 by_cases F:n=m
 ·have a4:((n:Int)!=(m:Int))=false:=by simp[F]
  have a5:((n:Int)==(m:Int))=true:=by simp[F]
  have WU:=O F;clear F
  go_enter func53,ntmps53
  go_wp2_with fail
  go_loopw [17] (λi wr=>∃k:Nat,i=I N k/\k<=n/\hQ ((l.take k).map (λb:Bx=>(b.lev,b.node))=(r.take k).map (λx:Int×Int=>x))/\hQ (ic w w wr)) (λi _=>n-(ji i).toNat)
  case atStart=>exact⟨0,rfl,jI _,O av,O (jt _ _)⟩
  obtain⟨k,rfl,hk,HG,a⟩:=hrel
  by_cases ba:k<n
  ·have bb:=ap ((k:Int)<(n:Int))
   have bc:=ap (k<n);have VZ:k<m:=aw WU;have bn:=ap ((k:Int)<(m:Int));have bo:=ap (k<m);obtain⟨x,R,ad⟩:=dS (l:=l) (j:=k) (by rw[<-HN];exact ba);obtain⟨y,E,al⟩:=dS (l:=r) (j:=k) (by rw[<-HM];exact VZ);obtain⟨Q,au,a1⟩:=HU.out;obtain⟨bq,a2,Vv⟩:=a1.at (i:=k) (b:=x.body) (by rw[ju,R];rfl);obtain⟨g,o,c',hq,H⟩:=mu au (λ_ _=>rfl) R a2;rw[Q7]at hq;injection hq with e1 e2 e3
   subst e1;subst e3;obtain⟨t,u,rfl⟩:=Vv.form;obtain⟨B,a3⟩:=J x.body.length;rw[<-a3]at H;obtain⟨S,U,rfl,K⟩:=(HV.cells).2.2 Y;have bd:=O ad;have bf:=O al;have bg:=O R;have bh:=O E;obtain⟨f,s,C,xb⟩:=x;obtain⟨M,P⟩:=y;have z:=af wr (hK #[I N f,I N s,I N C,hH t B u] 73);have Q8:=af (wr.alloc (hK #[I N f,I N s,I N C,hH t B u] 73)) (hK #[I N P,I N M,I N 0,hH hF 0 0] 73);have a0:wr.cell? ⟨g,o+k*4,hF⟩=T (I N f):=cell_below (H 0 _ rfl) a;have bk:wr.cell? ⟨g,o+k*4+1,hF⟩=T (I N s):=cell_below (H 1 _ rfl) a;have bl:wr.cell? ⟨g,o+k*4+2,hF⟩=T (I N C):=cell_below (H 2 _ rfl) a;have bm:wr.cell? ⟨g,o+k*4+3,hF⟩=T (hH t B u):=cell_below (H 3 _ rfl) a;have b0:(wr.alloc (hK #[I N f,I N s,I N C,hH t B u] 73)).cell? ⟨S,U+k*4,hF⟩=T (I N P):=cell_below (cell_below (K k _ E 0 _ rfl) a) z;have b1:(wr.alloc (hK #[I N f,I N s,I N C,hH t B u] 73)).cell? ⟨S,U+k*4+1,hF⟩=T (I N M):=cell_below (cell_below (K k _ E 1 _ rfl) a) z;have b2:(wr.alloc (hK #[I N f,I N s,I N C,hH t B u] 73)).cell? ⟨S,U+k*4+2,hF⟩=T (I N 0):=cell_below (cell_below (K k _ E 2 _ rfl) a) z;have b3:(wr.alloc (hK #[I N f,I N s,I N C,hH t B u] 73)).cell? ⟨S,U+k*4+3,hF⟩=T (hH hF 0 0):=cell_below (cell_below (K k _ E 3 _ rfl) a) z;have HC:=O (λW=>GN f s P M C t B u W);have W:=O (z.trans (Q8.mono z.size));clear H au a1 a2 Vv K R E ad al z Q8 e2 a3
   go_wp2_with fail
   refine(HC _).mono ?_;rintro e w1 ⟨rfl,z⟩;have K:=O (a.trans ((W.trans (z.mono W.size)).mono a.size));clear z HC W a0 bk bl bm b0 b1 b2 b3
   by_cases E:((f==P)&&(s==M))=true
   ·rw[E]
    have z:hQ ((l.take (k+1)).map (λb:Bx=>(b.lev,b.node))=(r.take (k+1)).map (λx:Int×Int=>x)):=O (by
     rw[bd,bf,jA,jA,HG]
     congr 1
     simp only[pz,List.map_nil];simp at E;simp[E])
    clear E
    go_wp2_with fail
    exact⟨⟨k+1,by go_num,by omega,z,K⟩,by simp only[ji];omega⟩
   have R:((f==P)&&(s==M))=false:=by simpa using E
   rw[R];obtain rfl:V=false:=by
    rw[X,decide_eq_false_iff_not];intro e;have H:=congrArg (λz=>z[k]?) e;simp only[ju,bg.out,bh.out,qs,Option.some.injEq]at H
    apply E
    try simp at H
    simp[H]
   clear E R
   go_wp2_with fail
   go_ret;exact⟨rfl,K⟩
  have bb:=ar ((k:Int)<(n:Int));have bc:=ar (k<n);obtain rfl:k=n:=Y;obtain rfl:V=true:=by
   rw[X,decide_eq_true_iff];have h:=HG.out;rw[jB (l:=l) (by rw[<-HN];exact je _),jB (l:=r) (by rw[<-HM,<-WU];exact je _)]at h;exact h
  go_wp2_with fail
  go_ret;exact⟨rfl,a⟩
 have a4:((n:Int)!=(m:Int))=true:=by simp;omega
 have a5:((n:Int)==(m:Int))=false:=by simp;omega
 obtain rfl:V=false:=by
  rw[X,decide_eq_false_iff_not];intro e;have:=congrArg qv e;rw[jc,jc,<-HN,<-HM]at this;exact F this
 clear F
 go_enter func53,ntmps53
 go_wp2_with fail
 go_ret;exact⟨rfl,jt _ _⟩
theorem MN(a b h c:Int)(i j k:Int)(d:Option jp)(f g:Nat)(w:hU):ja ih 52 #[ii #[I N a,I N b,hH d f g],ii #[I N h,I N c,I N i,I N j,I N k]] w λe w'=>e=jb (.bool (a==c))/\ic w w w':=by
 have l:=(af w (hK #[I N a,I N b,hH d f g] 75)).trans ((af (w.alloc (hK #[I N a,I N b,hH d f g] 75)) (hK #[I N h,I N c,I N i,I N j,I N k] 59)).mono (af w _).size);have m:=O l;clear l
 go_enter func52,ntmps52
 go_wp2_with fail
 go_ret;exact⟨rfl,m⟩
theorem BM{D:Nat->Prop}(l:List Wl)(r:List Chg)(v aa:hZ)(w:hU)(h:∃Q,ah D w v 3 l.length (cB Wl.cells l Q)/\bH D w (l.map Wl.body) Q)(a:EC.At w aa r)(hl:l.length<=1000000)(hr:r.length<=1000000):
 ja ih 54 #[v,aa,.func (.func 52) #[] #[]] w λe w'=>e=jb (.bool (decide (l.map (Wl.dev)=r.map (Chg.d))))/\ic w w w':=by
 obtain⟨S,f⟩:=J (decide (l.map (Wl.dev)=r.map (Chg.d)));rw[<-f];have U:=O f;obtain⟨p,c,g⟩:∃p c,v=hH p l.length c:=by obtain⟨Q,h,-⟩:=h;exact h.form
 obtain⟨q,d,rfl,hd,-⟩:=a.form;obtain⟨n,i⟩:=J l.length;obtain⟨m,k⟩:=J r.length;have HU:=O h;have HV:=O a;have Q7:=O g;rw[g];have V:=O i;have X:=O k;rw[<-i]at hl⊢;rw[<-k]at hr hd HV⊢;have EG:∀args w,(callFunc 52 args).run ih w=.ok (.enter 52 args) w:=λ_ _=>rfl
 clear h a i k f g
 by_cases E:n=m
 ·have a4:((n:Int)!=(m:Int))=false:=by simp[E]
  have a5:((n:Int)==(m:Int))=true:=by simp[E]
  have WU:=O E;clear E
  go_enter func54,ntmps54
  go_wp2_with fail
  go_loopw [17] (λi wr=>∃k:Nat,i=I N k/\k<=n/\hQ ((l.take k).map (Wl.dev)=(r.take k).map (Chg.d))/\hQ (ic w w wr)) (λi _=>n-(ji i).toNat)
  case atStart=>exact⟨0,rfl,jI _,O av,O (jt _ _)⟩
  obtain⟨k,rfl,hk,HG,a⟩:=hrel
  by_cases ba:k<n
  ·have bb:=ap ((k:Int)<(n:Int))
   have bc:=ap (k<n);have VZ:k<m:=aw WU;have bm:=ap ((k:Int)<(m:Int));have bn:=ap (k<m);obtain⟨x,R,ad⟩:=dS (l:=l) (j:=k) (by rw[<-V];exact ba);obtain⟨y,C,al⟩:=dS (l:=r) (j:=k) (by rw[<-X];exact VZ);obtain⟨Q,au,a1⟩:=HU.out;obtain⟨bo,a2,Vv⟩:=a1.at (i:=k) (b:=x.body) (by rw[ju,R];rfl);obtain⟨g,o,c',hq,H⟩:=mu au (λ_ _=>rfl) R a2;rw[Q7]at hq;injection hq with e1 e2 e3
   subst e1;subst e3;obtain⟨s,t,rfl⟩:=Vv.form;obtain⟨u,a3⟩:=J x.body.length;rw[<-a3]at H;obtain⟨K,M,rfl,F⟩:=(HV.cells).2.2 Y;have bd:=O ad;have bf:=O al;have bg:=O R;have bh:=O C;obtain⟨f,B,xb⟩:=x;obtain⟨yk,P,yp,yv,yc⟩:=y;have z:=af wr (hK #[I N f,I N B,hH s u t] 75);have Q8:=af (wr.alloc (hK #[I N f,I N B,hH s u t] 75)) (hK #[I N yk,I N P,I N yp,I N yv,I N yc] 59);have a0:wr.cell? ⟨g,o+k*3,hF⟩=T (I N f):=cell_below (H 0 _ rfl) a;have bk:wr.cell? ⟨g,o+k*3+1,hF⟩=T (I N B):=cell_below (H 1 _ rfl) a;have bl:wr.cell? ⟨g,o+k*3+2,hF⟩=T (hH s u t):=cell_below (H 2 _ rfl) a;have b0:(wr.alloc (hK #[I N f,I N B,hH s u t] 75)).cell? ⟨K,M+k*5,hF⟩=T (I N yk):=cell_below (cell_below (F k _ C 0 _ rfl) a) z;have b1:(wr.alloc (hK #[I N f,I N B,hH s u t] 75)).cell? ⟨K,M+k*5+1,hF⟩=T (I N P):=cell_below (cell_below (F k _ C 1 _ rfl) a) z;have b2:(wr.alloc (hK #[I N f,I N B,hH s u t] 75)).cell? ⟨K,M+k*5+2,hF⟩=T (I N yp):=cell_below (cell_below (F k _ C 2 _ rfl) a) z;have b3:(wr.alloc (hK #[I N f,I N B,hH s u t] 75)).cell? ⟨K,M+k*5+3,hF⟩=T (I N yv):=cell_below (cell_below (F k _ C 3 _ rfl) a) z;have b4:(wr.alloc (hK #[I N f,I N B,hH s u t] 75)).cell? ⟨K,M+k*5+4,hF⟩=T (I N yc):=cell_below (cell_below (F k _ C 4 _ rfl) a) z;have HC:=O (λW=>MN f B yk P yp yv yc s u t W);have W:=O (z.trans (Q8.mono z.size));clear H au a1 a2 Vv F R C ad al z Q8 e2 a3
   go_wp2_with fail
   refine(HC _).mono ?_;rintro e w1 ⟨rfl,z⟩;have H:=O (a.trans ((W.trans (z.mono W.size)).mono a.size));clear z HC W a0 bk bl b0 b1 b2 b3 b4
   by_cases C:(f==P)=true
   ·rw[C]
    have z:hQ ((l.take (k+1)).map (Wl.dev)=(r.take (k+1)).map (Chg.d)):=O (by
     rw[bd,bf,jA,jA,HG]
     congr 1
     simp only[pz,List.map_nil];simp at C;simp[C])
    clear C
    go_wp2_with fail
    exact⟨⟨k+1,by go_num,by omega,z,H⟩,by simp only[ji];omega⟩
   have R:(f==P)=false:=by simpa using C
   rw[R];obtain rfl:S=false:=by
    rw[U,decide_eq_false_iff_not];intro e;have F:=congrArg (λz=>z[k]?) e;simp only[ju,bg.out,bh.out,qs,Option.some.injEq]at F
    apply C
    try simp at F
    simp[F]
   clear C R
   go_wp2_with fail
   go_ret;exact⟨rfl,H⟩
  have bb:=ar ((k:Int)<(n:Int));have bc:=ar (k<n);obtain rfl:k=n:=Y;obtain rfl:S=true:=by
   rw[U,decide_eq_true_iff];have h:=HG.out;rw[jB (l:=l) (by rw[<-V];exact je _),jB (l:=r) (by rw[<-X,<-WU];exact je _)]at h;exact h
  go_wp2_with fail
  go_ret;exact⟨rfl,a⟩
 have a4:((n:Int)!=(m:Int))=true:=by simp;omega
 have a5:((n:Int)==(m:Int))=false:=by simp;omega
 obtain rfl:S=false:=by
  rw[U,decide_eq_false_iff_not];intro e;have:=congrArg qv e;rw[jc,jc,<-V,<-X]at this;exact E this
 clear E
 go_enter func54,ntmps54
 go_wp2_with fail
 go_ret;exact⟨rfl,jt _ _⟩
def fS(l:List Chg)(m:Mem):Bool:=l.any λx=>x.d==m.dev
theorem JS(d:Int)(b:Nat)(f g:Int)(x:Chg)(w:hU)(c:w.heap[b]?=T (hK #[I N d,I N f,I N g] 68 (0,0))):
 ja ih 59 #[ii x.cells.toArray,jd (T ⟨b,0,hF⟩)] w λe w'=>e=jb (.bool (x.d==d))/\ic w w w':=by
 obtain⟨h,j,k,l,m⟩:=x;unfold Chg.cells;have a:=af w (hK #[I N h,I N j,I N k,I N l,I N m] 59);have o:=cell_of (i:=0) (ak c a) rfl;have n:=O a;clear a c
 go_enter func59,ntmps59
 go_wp2_with fail
 go_ret;exact⟨rfl,n⟩
theorem J3(d:Int)(a b:Nat)(c e:Int)(f:a<b):fz EC 59 #[jd (T ⟨a,0,hF⟩)] b (λW=>W.heap[a]?=T (hK #[I N d,I N c,I N e] 68 (0,0))) (λx=>x.d==d) where
 enter _ _:=rfl
 keep w w' hn h hB:=(hB.block a f).trans h
 call x w hn h:=JS d a c e x w h
theorem IT(c:Cmt)(q:CQ)(b:Nat)(m:Mem)(w:hU)(r:cD w b c q)(h:EC.At w q.vc c.chg)(s:c.chg.length<=1000000):
 ja ih 57 #[ii m.cells.toArray,jd (T ⟨b,0,hF⟩)] w λe w'=>e=jb (.bool (fS c.chg m))/\ic w w w':=by
 obtain⟨md,a,d⟩:=m;unfold Mem.cells;have f:=af w (hK #[I N md,I N a,I N d] 68);have g:=jg w (hK #[I N md,I N a,I N d] 68);obtain⟨t,i⟩:=J (w.alloc (hK #[I N md,I N a,I N d] 68));obtain⟨y,j⟩:=J w.heap.size;rw[<-i]at f g;rw[<-j]at g;have k:=h.below f;have l:=(r.below f).at.2.2.2.1;obtain⟨p,D,u,-,-⟩:=h.form;rw[u]at l k;have o:=O (D6 (J3 md y t.heap.size a d (jq.1 g).1) c.chg _ t k g (je _) s);have v:=O f;have z:=O i;have B:=O j;have C:hQ ((c.chg.any λx=>x.d==md)=fS c.chg ⟨md,a,d⟩):=O rfl;obtain⟨n,x⟩:=J c.chg.length;rw[<-x]at l o;clear r h s f g i j k u x
 go_enter func57,ntmps57
 go_upto_region 1 with fail
 rw[<-z,<-B]
 go_wp2_with fail
 refine(o).mono ?_;rintro e h ⟨rfl,f⟩;have g:=ac v f;clear f o v l
 go_wp2_with fail
 go_ret;exact⟨iD C,g⟩
theorem LA(c:Cmt)(q:CQ)(b:Nat)(a:hU)(d:cD a b c q)(e:EC.At a q.vc c.chg)(f:c.chg.length<=1000000):
 fz EM 57 #[jd (T ⟨b,0,hF⟩)] a.heap.size (λW=>ic a a W) (fS c.chg) where
 enter _ _:=rfl
 keep w w' hn h hB:=h.trans hB
 call x w hn h:=IT c q b x w (d.below h) (e.below h) f
theorem AT:∀(xs:List hZ) (k i:Nat) (cs:Array hZ),k+i+xs.length<=cs.size->((xs.zipIdx i).foldl (λcs x=>cs.setIfInBounds (k+x.2) x.1) cs).toList=cs.toList.take (k+i)++xs++cs.toList.drop (k+i+xs.length)
 |[],k,i,cs,h=>by simp
 |x::xs,k,i,cs,h=>by
  rw[jn]at h;have hk:k+i<cs.toList.length:=by rw[qE];omega
  rw[j3,List.foldl_cons,AT xs k (i+1) _ (by rw[Array.size_setIfInBounds];omega),qF,<-qe,List.take_add_one,List.take_set_of_le (je _),List.getElem?_set_self hk,List.drop_set_of_lt Y,jn];simp only[Option.toList_some,qc,List.singleton_append,qa,qC];rw[show k+i+1+xs.length=k+i+(xs.length+1) by omega]
theorem CY(X a:Array hZ)(k n:Nat)(h:X.size=n)(d:k+n<=a.size):Array.foldl (λcs x=>cs.setIfInBounds (k+x.2) x.1) a X.zipIdx 0 n=(a.toList.take k++X.toList++a.toList.drop (k+n)).toArray:=by
 have b:X.zipIdx.size=n:=by simp[h]
 have c:Array.foldl (λcs (x:hZ×Nat)=>cs.setIfInBounds (k+x.2) x.1) a X.zipIdx 0 n=X.zipIdx.toList.foldl (λcs x=>cs.setIfInBounds (k+x.2) x.1) a:=by
  rw[Array.foldl_toList,b]
 rw[c,Array.toList_zipIdx]
 apply qG
 rw[AT _ _ _ _ (by rw[qE];omega)];simp[h]
theorem GT(f e:Int)(a:Array hZ)(b:a.size=32)(w:hU):
 (Instr.build 54 #[(0,I N f),(1,I N e),(2,ii a)]).run ih w=.ok (ii (#[I N f,I N e]++a++ #[hH hF 0 0,hH hF 0 0])) w:=by
 unfold Instr.build;go_simp;rw[CY a _ 2 32 b av];obtain⟨l⟩:=a;simp
theorem LG(w:hU):(Instr.build 54 #[]).run ih w=.ok (ii (aB ⟨0,0,jR 32 0#8,[],[]⟩ (hH hF 0 0) (hH hF 0 0)).toArray) w:=by
 unfold Instr.build;go_simp
 rfl
theorem aT.ints{w w':hU}{v:hZ}{t:List (Int×Int)}(h:aT w v t)(a:∀(g o:Nat) (x:Int),w.cell? ⟨g,o,hF⟩=T (I N x)->w'.cell? ⟨g,o,hF⟩=T (I N x)):aT w' v t:=by
 obtain⟨p,c,f,i,k,l,m⟩:=h;refine⟨p,c,f,i,k,λn=>?_,m⟩;obtain⟨g,o,e,b⟩:=l n;exact⟨g,o,e,λj d=>⟨a _ _ _ (b j d).1,a _ _ _ (b j d).2⟩⟩
theorem rR{w w':hU}{b i:Nat}{X l:Array hZ}{t:jo}(m:w.heap[b]?=T (hK X t (0,0)))(q:w'.heap[b]?=T (hK l t (0,0)))(r:∀j,j≠i->l[j]?=X[j]?){p:Option jp}{n c:Nat}(j:X[i]?=T (hH p n c))
 (hk:∀k,k<w.heap.size->k≠b->w'.heap[k]?=w.heap[k]?):∀(g o:Nat) (x:Int),w.cell? ⟨g,o,hF⟩=T (I N x)->w'.cell? ⟨g,o,hF⟩=T (I N x):=λg o x d=>by
 by_cases e:g=b
 ·subst e
  unfold j7 at d⊢;rw[m]at d;rw[q];simp only at d⊢;have f:X[o]?=T (I N x):=by simpa using d
  have k:o≠i:=λe=>by rw[e,j]at f;injection f with h;cases h
  have:=(r o k).trans f
  simpa using this
 rw[<-d];exact bz (a:=⟨g,o,hF⟩) (hk g (eN d) e)
theorem ko(g:Grp)(a b:hZ)(h:g.last.length=32):(aB g a b).toArray[34]?=T a/\(aB g a b).toArray[35]?=T b/\(aB g a b).toArray.size=36:=by
 have c:=lx (vm:=a) (vt:=b) h;exact⟨by simpa using c.2.2.1,by simpa using c.2.2.2,by rw[jr,wV h]⟩
theorem z8(g:Grp)(a b x:hZ)(h:g.last.length=32):(aB g a b).toArray.setIfInBounds 34 x=(aB g x b).toArray:=by
 apply qG
 rw[qF];unfold aB;have c:(g.last.map v8).length=32:=by rw[jc];exact h
 show List.set (_ ::_ ::(g.last.map v8++[a,b])) 34 x=_;rw[qf,qf,ri _ _ Y,c]
 rfl
theorem zG(g:Grp)(a b x:hZ)(h:g.last.length=32):(aB g a b).toArray.setIfInBounds 35 x=(aB g a x).toArray:=by
 apply qG
 rw[qF];unfold aB;have c:(g.last.map v8).length=32:=by rw[jc];exact h
 show List.set (_ ::_ ::(g.last.map v8++[a,b])) 35 x=_;rw[qf,qf,ri _ _ Y,c]
 rfl
theorem I3(g:Grp)(a c b:hZ)(h:g.last.length=32)(j:Nat)(d:j≠34):(aB g c b).toArray[j]?=(aB g a b).toArray[j]?:=by
 rw[<-z8 g a b c h,rn (Ne.symm d)]
theorem Nr(g:Grp)(a b c:hZ)(h:g.last.length=32)(j:Nat)(d:j≠35):(aB g a c).toArray[j]?=(aB g a b).toArray[j]?:=by
 rw[<-zG g a b c h,rn (Ne.symm d)]
theorem lQ{w:hU}{b i:Nat}{cs:Array hZ}{t:jo}(v:hZ)(h:w.heap[b]?=T (hK cs t (0,0))):(w.setCell ⟨b,i,hF⟩ v).heap[b]?=T (hK (cs.setIfInBounds i v) t (0,0)):=by
 show(w.heap.modify b _)[b]?=_;rw[qA];simp[h]
theorem fp{w:hU}{b i k:Nat}(v:hZ)(h:k≠b):(w.setCell ⟨b,i,hF⟩ v).heap[k]?=w.heap[k]?:=rv _ _ _ _ h
theorem lT{w:hU}{b o n:Nat}{cs:Array hZ}{t:jo}(h:w.heap[b]?=T (hK cs t (0,0)))(a:o+n<=cs.size):w.there b o n:=by
 intro j c;refine⟨?_,by simp[qz,h]⟩;rw[cell_of h (Array.getElem?_eq_getElem (show o+j<cs.size by omega))]
 rfl
theorem KI{w:hU}{b o:Nat}{cs:Array hZ}{t:jo}(h:w.heap[b]?=T (hK cs t (0,0))):w.frozen? ⟨b,o,hF⟩=false:=by simp[qz,h]
def gM(l:List Mem)(a:List Chg)(ep:Int):List Mem:=(l.filter λm=> !fS a m)++(a.filter λx=> !(x.k==2)).map λx=>⟨x.d,ep,x.v⟩
theorem Mw{g:Grp}(h:cG g):(g.mem.map Mem.dev).Nodup:=by
 rw[h.dev];exact(uo g.tree).imp λh=>Int.ne_of_lt h
theorem Na{l:List Mem}{c:List Chg}{ep:Int}(f:(l.map Mem.dev).Nodup)(g:(c.map Chg.d).Nodup):((gM l c ep).map Mem.dev).Nodup:=by
 unfold gM;rw[jA,qw];refine⟨f.sublist (p6.map _),?_,?_⟩
 ·rw[jQ]
  exact g.sublist (p6.map _)
 intro a h b i e;obtain⟨m,j,rfl⟩:=jf.1 h;obtain⟨y,k,rfl⟩:=jf.1 i;obtain⟨x,n,rfl⟩:=jf.1 k;have d:=(jW.1 j).2;have o:fS c m=true:=by
  unfold fS;exact qd.2 ⟨x,(jW.1 n).1,by simpa using e.symm⟩
 rw[o]at d
 cases d
theorem Oh(l:List Mem)(a b:List Chg)(x:Chg)(ep:Int):(l.filter λm=> !fS a m)++((b++[x]).filter λx=> !(x.k==2)).map (λx=>(⟨x.d,ep,x.v⟩:Mem))=
 ((l.filter λm=> !fS a m)++(b.filter λx=> !(x.k==2)).map (λx=>(⟨x.d,ep,x.v⟩:Mem)))++(if x.k=2 then []else [⟨x.d,ep,x.v⟩]):=by
 rw[List.filter_append,jA,qc]
 congr 1
 by_cases h:x.k=2
 ·simp[h]
 simp[h]
noncomputable def iU(p r s:Int)(msg:LBy):Bool:=by classical exact decide (kF p r s msg)
theorem wu{p r s:Int}{msg:LBy}:iU p r s msg=true↔kF p r s msg:=by unfold iU;simp
def onB(g:Grp)(c:Cmt):Bool:=(c.folder==g.folder)&&(c.epoch==g.epoch+1)&&decide (c.parent=g.last)
noncomputable def gF(g:Grp)(c:Cmt):Bool:=decide (c.box.map (λb:Bx=>(b.lev,b.node))=dc g c.author c.chg)&&decide (c.wel.map Wl.dev=(di c.author c.chg).map Chg.d)
noncomputable def ey(g:Grp)(c:Cmt):Int:=
 if eE g=false then 1 else if en c≠0 then 220 else if onB g c=false then 220 else if ci g c.author c.chg≠0 then ci g c.author c.chg else if gF g c=false then 220
 else if iU (dp g c.author c.chg) c.r c.s (dk c)=false then 222 else ef (aJ g.tree c.chg) c.author c.path
noncomputable def dx(g:Grp)(c:Cmt):Grp:=⟨g.folder,c.epoch,idC c,gD (gM g.mem c.chg c.epoch),kE (aJ g.tree c.chg) c.author c.path⟩
def eH:Grp:=⟨0,0,jR 32 0#8,[],[]⟩
structure da(M R:Nat)(t e:jo)(sz:Nat)(X:hZ->Array hZ)(w0 wr:hU)(n:Nat)(a:hZ)(xs:List hZ):Prop where
 box:wr.heap[R]?=T (hK (X a) t (0,0))
 own:wr.ownsRow M e sz a n xs
 but:aD R M w0 wr
 sz':M<=wr.heap.size
theorem da.later{M R:Nat}{t e:jo}{sz:Nat}{X:hZ->Array hZ}{w0 wr b:hU}{n:Nat}{c:hZ}{xs:List hZ}(h:da M R t e sz X w0 wr n c xs)(d:R<M)(a:ic wr wr b):da M R t e sz X w0 b n c xs:=
 ⟨(a.block R (jz d h.sz')).trans h.box,cZ h.own a,h.but.trans (aD.of_below (a.mono h.sz')) (je _),jh h.sz' a.size⟩
theorem lu{M:Nat}{e:jo}{sz n:Nat}{w w':hU}{v:hZ}{xs:List hZ}(h:w.ownsRow M e sz v n xs)(hk:∀k,M<=k->w'.heap[k]?=w.heap[k]?):w'.ownsRow M e sz v n xs:=by
 refine⟨h.1,?_⟩
 rcases h.2 with a|⟨g,b,c,d,a,f,i⟩
 ·exact .inl a
 exact .inr ⟨g,b,c,d,a,(hk g a).trans f,i⟩
theorem k6(w:hU)(a:jp)(v:hZ):(w.setCell a v).heap.size=w.heap.size:=by simp[r3]
theorem da.push{M R i:Nat}{t e:jo}{sz:Nat}{X:hZ->Array hZ}{w0 f d:hU}{n m:Nat}{c b:hZ}{xs g:List hZ}(h:da M R t e sz X w0 f n c xs)(j:R<M)(a:aV M e sz f d c b m g)(l:(X c).setIfInBounds i b=X b):
 da M R t e sz X w0 (d.setCell ⟨R,i,hF⟩ b) m b g:=by
 have o:d.heap[R]?=T (hK (X c) t (0,0)):=dW h.box a.grown (bU h.own (.inr j));refine⟨?_,lu a.own (λk hk=>fp _ Y),?_,?_⟩
 ·rw[<-l];exact lQ b o
 ·refine h.but.trans ⟨a.grown.os,a.grown.tape,a.grown.output,by rw[k6];exact a.grown.size,λk hk p=>(fp _ p).trans (a.grown.block k (jz hk h.sz') (λe=>?_))⟩ (je _)
  have:=(h.own.lt k e.symm).1;omega
 rw[k6];exact jh h.sz' a.grown.size
theorem da.first{M R i:Nat}{t e:jo}{sz:Nat}{X:hZ->Array hZ}{w0 a:hU}{n:Nat}{b v:hZ}{xs:List hZ}(c:a.heap[R]?=T (hK (X b) t (0,0)))(d:a.ownsRow M e sz v n xs)(f:ic M w0 a)(g:M<=a.heap.size)(l:R<M)(h:(X b).setIfInBounds i v=X v):
 da M R t e sz X w0 (a.setCell ⟨R,i,hF⟩ v) n v xs:=by
 refine⟨?_,lu d (λk hk=>fp _ Y),?_,by rw[k6];exact g⟩
 ·rw[<-h];exact lQ v c
 exact(aD.of_below f).trans ⟨rfl,rfl,rfl,qH (k6 _ _ _).symm,λk hk j=>fp _ j⟩ (je _)
theorem G3{w:hU}{o:Oper}{a:Act}{K:Act->hU->Prop}{e:Exit->Act->hU->Prop}(s x:Operand)
 (f:o.op=.call {callee:=.builtin .append,args:=#[s,x],argTypes:=#[49,49]})
 (B:Nat) (v:hZ) (n:Nat) (xs:List hZ) (g:a.eval s=v) (i:w.ownsRow B 68 3 v n xs) (b:hZ) (m:Nat) (c:List hZ) (j:a.eval x=b) (k:bW w b 3 m c) (l:∀b∈c,b.oneCell'=true)
 (E:n+m<=4000000) (p:B<=w.heap.size) (h:∀d w',aV B 68 3 w w' v d (n+m) (xs++c)->K (a.put o.dst d) w'):o.wp ih a w K e:=by
 obtain⟨q,r,t,u,y⟩:=lz zq;exact lN s x 49 f B 68 q _ 3 24 underlying49 r t u y rfl G v n xs g i b m c j k l (by unfold maxLen;omega) Y p
  λd w' z C D=>h d w' (ly z C D)
theorem Hb(l:List Mem)(a:List Chg)(ep:Int){x:Chg}{i:Nat}(h:a.take (i+1)=a.take i++[x]):((l.filter λm=> !fS a m)++((a.take (i+1)).filter λx=> !(x.k==2)).map λx=>(⟨x.d,ep,x.v⟩:Mem))=
 ((l.filter λm=> !fS a m)++((a.take i).filter λx=> !(x.k==2)).map λx=>(⟨x.d,ep,x.v⟩:Mem))++(if x.k=2 then []else [⟨x.d,ep,x.v⟩]):=by rw[h];exact Oh l a (a.take i) x ep
theorem Dw(z:Int×Int):∀l,z∈dz z l
 |[]=>by simp[dz]
 |x::r=>by
  unfold dz
  split
  ·exact js ..
  exact jy _ (Dw z r)
theorem Cu{z e:Int×Int}:∀{l},e∈l->e∈dz z l
 |[],h=>by cases h
 |x::r,h=>by
  unfold dz
  split
  ·exact jy _ h
  rcases jm.1 h with rfl|h
  ·exact js ..
  exact jy _ (Cu h)
theorem AI{d x:Int}(a:0<=d)(b:d<512)(c:512<=x)(h:Und (512+d) x):x=512+d:=by
 obtain⟨k,hk,rfl⟩:=FM a b h
 rcases k with _|k
 ·simp
 have e:=(tB a b hk).2 0 (Nat.succ_pos k);have f:(512+d)/2^(k+1)<=(512+d)/2:=by
  rw[Int.pow_succ,Int.mul_comm,<-Int.ediv_ediv_of_nonneg G];exact qN _ Y
 omega
theorem JM{t:List (Int×Int)}{d:Int}{e:Int×Int}(he:e∈t)(a:¬Und (512+d) e.1):e∈cY t d:=by
 unfold cY;exact jW.2 ⟨he,by rw[AW a];rfl⟩
theorem KF{t:List (Int×Int)}{d:Int}(c:0<=d)(g:d<512){e:Int×Int}(i:mc t e.1)(j:¬Und (512+d) e.1):mc (cY t d) e.1:=by
 obtain⟨f,k,a,b⟩:=i;refine⟨f,JM k (λh=>j ?_),a,b⟩;rw[<-AI c g a h];exact b
theorem CE{t:List (Int×Int)}{d:Int}(h:Good t)(a:0<=d)(b:d<512):Good (cY t d):=by
 refine⟨ox h.1 d,λe he=>?_⟩;obtain⟨c,f⟩:=DW he;obtain⟨g,i,j,k⟩:=h.2 e c;exact⟨g,i,j,KF a b k f⟩
theorem Js{s t:List (Int×Int)}{a:Int}(h:mc s a)(b:∀e∈s,e∈t):mc t a:=by
 obtain⟨f,c,h⟩:=h;exact⟨f,b f c,h⟩
theorem Jj{t:List (Int×Int)}{d x:Int}(h:Good t)(a:0<=d)(b:d<512)(c:aN x):Good (dz (512+d,x) (cY t d)):=by
 refine⟨sH (ox h.1 d) (oz (nU Y)),λe he=>?_⟩
 rcases nB he with rfl|he
 ·refine⟨?_,?_,c,(512+d,x),Dw _ _,?_,nU ?_⟩<;>show _ <=_ <;>omega
 obtain⟨g,i,j,k⟩:=(CE h a b).2 e he;exact⟨g,i,j,Js k (λf l=>Cu l)⟩
theorem mem_iff(t:List (Int×Int))(d:Int):d∈aU t↔0<=d/\d<512/\(ofF t (512+d)).isSome=true:=by
 rw[mq,yZ]
theorem tN{f:Int->Option Int}{m:Int}:∀{h n:Nat},m∈cF f h n->(f m).isSome=true
 |0,n,a=>by
  unfold cF at a
  split at a
  ·rw[ki.1 a];assumption
  cases a
 |h+1,n,a=>by
  unfold cF at a
  split at a
  ·rw[ki.1 a];assumption
  rcases jG.1 a with a|a
  ·exact tN a
  exact tN a
theorem Gg{t:List (Int×Int)}{x m:Int}(h:m∈dQ t x):(ofF t m).isSome=true:=by
 unfold dQ at h
 split at h
 ·exact tN h
 cases h
theorem Da{t:List (Int×Int)}{d:Int}(c:cK t=0)(h:d∈aU t)(b:Bool):cQ t d b=0:=by
 obtain⟨e,f,a⟩:=(mem_iff _ _).1 h;unfold cQ;rw[if_pos c,if_neg];rintro(h|h|⟨-,h⟩)
 ·omega
 ·omega
 rw[h]at a;cases a
theorem GU{t:List (Int×Int)}{d:Int}(g:0<=d)(h:d<512)(x:Int):x∈aU (cY t d)↔x≠d/\x∈aU t:=by
 rw[mem_iff,mem_iff,ED]
 constructor
 ·rintro⟨a,b,c⟩
  split at c
  ·cases c
  rename_i f;refine⟨λe=>f ?_,a,b,c⟩;rw[e];exact rt (nU Y)
 rintro⟨e,a,b,c⟩;refine⟨a,b,?_⟩;rw[if_neg]
 ·exact c
 intro f;have:=AI g h Y ((BW _ _).1 f);omega
theorem Em{g:Grp}(h:cG g)(d:Int):cE g.mem d=true↔d∈aU g.tree:=by
 rw[<-h.dev];unfold cE;rw[qd]
 constructor
 ·rintro⟨m,a,e⟩
  exact jf.2 ⟨m,a,by simpa using e⟩
 intro h;obtain⟨m,a,e⟩:=jf.1 h;exact⟨m,a,by simpa using e⟩
theorem Kz{t:List (Int×Int)}{d:Int}(h:d∈aU t):0<=d/\d<512:=by
 have:=(mq t d).1 h;exact⟨this.1,this.2.1⟩
structure C1(t:List (Int×Int))(l:List Chg):Prop where
 each:∀x∈l,pG x
 once:(l.map Chg.d).Nodup
 mem:∀x∈l,(x.d∈aU t↔x.k≠1)
theorem BA{t:List (Int×Int)}{d:Int}(a:0<=d)(b:d<512)(x:Int):x∈aU (cY t d)↔x≠d/\x∈aU t:=GU a b x
theorem FY{t:List (Int×Int)}{d v:Int}(b:0<=d)(c:d<512)(x:Int):x∈aU (dz (512+d,v) (cY t d))↔x=d\/x∈aU t:=by
 rw[mem_iff];have e:=r7 (z:=(512+d,v)) (oz (t:=t) (nU Y)) (512+x);rw[e]
 by_cases h:x=d
 ·subst h
  simp[b,c]
 rw[if_neg (by show ¬512+x=512+d;omega)];have f:=BA (t:=t) b c x;rw[mem_iff]at f;rw[f]
 constructor
 ·exact λh=>.inr h.2
 rintro(a|a)
 ·exact absurd a h
 exact⟨h,a⟩
theorem Kc{t:List (Int×Int)}{x:Chg}(h:Good t)(j:pG x)(k:x.d∈aU t↔x.k≠1):Good (eC t x)/\∀d,d∈aU (eC t x)↔(d=x.d/\x.k≠2)\/(d≠x.d/\d∈aU t):=by
 have f:=pA h;obtain⟨⟨b,c⟩,hk⟩:=j
 by_cases a:x.k=2
 ·have g:x.d∈aU t:=k.2 Y
  have e:eC t x=cY t x.d:=by unfold eC lW;rw[if_pos a,if_pos (Da f g true)]
  rw[e];refine⟨CE h b c,λd=>?_⟩;rw[BA b c]
  constructor
  ·exact λh=>.inr h
  rintro(⟨-,h⟩|h)
  ·exact absurd a h
  exact h
 have g:aN x.p:=by
  rcases hk with⟨-,h,-⟩|⟨h,-⟩|⟨-,h,-⟩
  ·exact h
  ·exact absurd h a
  exact h
 have l:cQ t x.d false=0:=by
  unfold cQ;rw[if_pos f,if_neg (by rintro(h|h|⟨h,-⟩);omega;omega;cases h)]
 have m:eQ t x.d x.p=0:=by unfold eQ;rw[if_pos l,if_pos (fq g)]
 have e:eC t x=dz (512+x.d,x.p) (cY t x.d):=by unfold eC ia;rw[if_neg a,if_pos m]
 rw[e];refine⟨Jj h b c g,λd=>?_⟩;rw[FY b c]
 by_cases i:d=x.d
 ·simp[i,a]
 simp[i]
theorem KJ(t:List (Int×Int))(x:Chg)(l:List Chg):aJ t (x::l)=aJ (eC t x) l:=rfl
theorem mJ:∀(l:List Chg) (t:List (Int×Int)),Good t->C1 t l->Good (aJ t l)/\∀d,d∈aU (aJ t l)↔(∃x∈l,x.d=d/\x.k≠2)\/((∀x∈l,x.d≠d)/\d∈aU t)
 |[],t,h,b=>⟨h,λd=>by simp[aJ]⟩
 |x::l,t,h,b=>by
  obtain⟨m,g⟩:=Kc h (b.each x (js ..)) (b.mem x (js ..));have i:=qX.1 (show(x.d::l.map Chg.d).Nodup from b.once);have j:∀y∈l,y.d≠x.d:=λy a e=>i.1 (by rw[<-e];exact List.mem_map_of_mem a)
  obtain⟨n,o⟩:=mJ l _ m ⟨λy a=>b.each y (jy _ a),i.2,λy a=>by
   rw[g,<-b.mem y (jy _ a)];have:=j y a;simp[this]⟩
  refine⟨n,λd=>?_⟩;rw[KJ,o,g]
  constructor
  ·rintro(⟨y,a,e,k⟩|⟨c,⟨e,k⟩|⟨p,f⟩⟩)
   ·exact .inl ⟨y,jy _ a,e,k⟩
   ·exact .inl ⟨x,js ..,e.symm,k⟩
   refine .inr ⟨λy a=>?_,f⟩
   rcases jm.1 a with rfl|a
   ·exact λe=>p e.symm
   exact c y a
  rintro(⟨y,a,e,k⟩|⟨c,f⟩)
  ·rcases jm.1 a with rfl|a
   ·refine .inr ⟨λz p=>?_,.inl ⟨e.symm,k⟩⟩
    rw[<-e];exact j z p
   exact .inl ⟨y,a,e,k⟩
  exact .inr ⟨λy a=>c y (jy _ a),.inr ⟨λe=>c x (js ..) e.symm,f⟩⟩
theorem sk{g:Grp}{a:Int}{l:List Chg}(c:cG g)(b:dD l)(d:eS g a l):C1 g.tree l:=by
 refine⟨b.each,b.once,λx e=>?_⟩;rw[<-Em c,(d.each x e).1];simp
theorem zL{g:Grp}{a:Int}{l:List Chg}(b:cG g)(f:dD l)(c:eS g a l):a∈aU (aJ g.tree l):=by
 rw[(mJ l _ (kC b.tree) (sk b f c)).2]
 rcases Int.lt_or_le 0 g.epoch with h|h
 ·have d:cE g.mem a=true:=by rw[c.own];simpa using h
  exact .inr ⟨λx e=>(c.each x e).2 d,(Em b a).1 d⟩
 have d:g.epoch=0:=by have:=b.ep.1;omega
 obtain⟨x,r,rfl,e⟩:=c.first d;have hk:x.k=1:=by
  have:=(c.each x (js ..)).1;rw[(b.zero d).1]at this
  simpa [cE]using this
 exact .inl ⟨x,js ..,e,by omega⟩
theorem NT{l:List Chg}(h:(l.map Chg.d).Nodup):((eV l).map Chg.d).Pairwise (·<·):=by
 have d:(eV l).Perm l:=jO _ _;have a:(eV l).Pairwise λx y=>decide (x.d<=y.d)=true:=List.pairwise_mergeSort (λa b c e f=>by simp at*;omega) (λa b=>by simp;omega) l
 have b:((eV l).map Chg.d).Nodup:=(d.map _).nodup_iff.2 h;have c:((eV l).map Chg.d).Pairwise (·<=·):=nn.2 (a.imp λh=>by simpa using h);exact(c.and b).imp λh=>by have:=h.1;have:=h.2;omega
structure wR(g:Grp)(c:Cmt):Prop where
 val:cG g
 chk:eG c
 fol:c.folder=g.folder
 ep:c.epoch=g.epoch+1
 par:c.parent=g.last
 form:dD c.chg
 poss:eS g c.author c.chg
 box:c.box.map (λb:Bx=>(b.lev,b.node))=dF (aJ g.tree c.chg) c.author
 wel:c.wel.map Wl.dev=(di c.author c.chg).map Chg.d
 ver:kF (dp g c.author c.chg) c.r c.s (dk c)
 ren:ef (aJ g.tree c.chg) c.author c.path=0
theorem ru{g:Grp}{a:Int}{l:List Chg}(h:ci g a l=0):dc g a l=dF (aJ g.tree l) a:=by unfold dc;rw[if_pos h]
theorem vC{g:Grp}:eE g=true↔cG g:=by unfold eE;simp
theorem Mf{c:Cmt}:en c=0↔eG c:=by
 constructor
 ·intro h
  exact Classical.byContradiction λa=>by rw[dM a]at h;cases h
 exact oD
theorem Ft{g:Grp}{c:Cmt}:ey g c=0↔wR g c:=by
 unfold ey
 constructor
 ·intro h
  by_cases i:eE g=false
  ·rw[if_pos i]at h;cases h
  rw[if_neg i]at h
  by_cases j:en c≠0
  ·rw[if_pos j]at h;cases h
  rw[if_neg j]at h
  by_cases b:onB g c=false
  ·rw[if_pos b]at h;cases h
  rw[if_neg b]at h
  by_cases a:ci g c.author c.chg≠0
  ·rw[if_pos a]at h;exact absurd h a
  rw[if_neg a]at h
  by_cases d:gF g c=false
  ·rw[if_pos d]at h;cases h
  rw[if_neg d]at h
  by_cases k:iU (dp g c.author c.chg) c.r c.s (dk c)=false
  ·rw[if_pos k]at h;cases h
  rw[if_neg k]at h;have m:eE g=true:=by simpa using i
  have e:onB g c=true:=by simpa using b
  have l:ci g c.author c.chg=0:=Classical.byContradiction a;have f:gF g c=true:=by simpa using d
  have n:iU (dp g c.author c.chg) c.r c.s (dk c)=true:=by simpa using k
  unfold onB at e;unfold gF at f;simp only[j9,beq_iff_eq,decide_eq_true_eq]at e f;obtain⟨-,o,p⟩:=lY.1 l;exact⟨vC.1 m,Mf.1 (Classical.byContradiction j),e.1.1,e.1.2,e.2,o,p,by rw[<-ru l];exact f.1,f.2,wu.1 n,h⟩
 intro h;have a:ci g c.author c.chg=0:=lY.2 ⟨h.val,h.form,h.poss⟩;have b:onB g c=true:=by unfold onB;simp[h.fol,h.ep,h.par]
 have d:gF g c=true:=by unfold gF;rw[ru a];simp[h.box,h.wel]
 rw[if_neg (by rw[vC.2 h.val];decide),if_neg (by rw[oD h.chk];decide),if_neg (by rw[b];decide),if_neg (by rw[a];decide),if_neg (by rw[d];decide),if_neg (by rw[wu.2 h.ver];decide)];exact h.ren
theorem Nq{g:Grp}{a:Int}{l:List Chg}{p:List Int}(b:cG g)(c:dD l)(d:eS g a l)(h:p.length=10)(i:∀x∈p,aN x):ef (aJ g.tree l) a p=0/\gj p:=by
 have e:gj p:=λj f=>by rw[eh _ f];exact fq (i _ (ql f))
 have k:=(mJ l _ (kC b.tree) (sk b c d)).1;refine⟨?_,e⟩;unfold ef;rw[if_pos (Da (pA k) (zL b c d) true),if_pos ⟨h,e⟩]
theorem Aq{α:Type}{x:α}{i:Nat}:∀{l:List α} {k:Nat},(x,i)∈l.zipIdx k->k<=i/\i<k+l.length/\x∈l
 |[],k,h=>by simp at h
 |y::l,k,h=>by
  rw[j3]at h
  rcases jm.1 h with h|h
  ·injection h with a b
   subst a b;exact⟨je _,by simp,js ..⟩
  obtain⟨a,b,c⟩:=Aq h;exact⟨by omega,by rw[jn];omega,jy _ c⟩
theorem Cw{t:List (Int×Int)}(f:Good t){a:Int}(g:0<=a)(j:a<512){k n:Int}(h:(k,n)∈dF t a):(1<=k/\k<=9)/\(1<=n/\n<1024)/\(ofF t n).isSome=true/\aN ((ofF t n).getD 0):=by
 unfold dF eu at h;obtain⟨⟨s,i⟩,l,o⟩:=List.mem_flatMap.1 h;obtain⟨w,p,-⟩:=Aq l;rw[wA g j]at p;obtain⟨m,q,e⟩:=jf.1 o;injection e with r u
 subst r u;have c:=Gg q;obtain⟨v,d⟩:=qi.1 c;have b:=f.2 _ (mA d);refine⟨⟨by show(1:Int)<=(i:Int);omega,by show(i:Int)<=9;omega⟩,⟨b.1,by have:=b.2.1;show m<1024;have:m<=1023:=b.2.1;omega⟩,c,?_⟩;rw[d];exact b.2.2.1
theorem Ls(t:List (Int×Int))(x:Int):(dQ t x).length<=2^hgt x.toNat:=by
 unfold dQ
 split
 ·exact oV _ _ _
 simp
theorem LI(t:List (Int×Int)):∀(l:List Int) (k:Nat),(eu t l k).length<=(l.map λs=>2^hgt s.toNat).sum:=by
 intro l
 induction l with
 |nil=>intro k;simp[eu]
 |cons y l a=>
  intro k;have h:=a (k+1);unfold eu at h⊢;rw[j3,qb,jk,jc,pz,List.sum_cons];have b:(dQ t (y,k).1).length<=2^hgt y.toNat:=Ls t y;omega
theorem F3:∀n:Fin 512,((lI n.val).map λs=>2^hgt s).sum=511:=by decide+kernel
theorem zx(t:List (Int×Int)){a:Int}(b:0<=a)(c:a<512):(dF t a).length<=511:=by
 unfold dF;refine jh (LI _ _ _) ?_;have e:((gu a).map λs=>2^hgt s.toNat)=(lI a.toNat).map λs=>2^hgt s:=by
  unfold gu;rw[jQ]
  rfl
 rw[e];have:=F3 ⟨a.toNat,by omega⟩;exact qH this
theorem AZ(a n b P:Nat)(c:1%P=1)(h:a^b%P=1):a^(n%b)%P=a^n%P:=by
 have e:a^n=(a^b)^(n/b)*a^(n%b):=by rw[<-Nat.pow_mul,<-qg,qy]
 have d:(a^b)^(n/b)%P=1:=by rw[Nat.pow_mod,h,Nat.one_pow,c]
 rw[e,Nat.mul_mod,d,Nat.one_mul,Nat.mod_mod]
theorem Le(a k e x b P:Nat)(c:1%P=1)(h:a^b%P=1):a^((k+e*x%b)%b)%P=(a^k%P)*((a^x%P)^e%P)%P:=by
 rw[AZ a _ b P c h,qg,Nat.mul_mod,AZ a (e*x) b P c h,<-Nat.pow_mod,<-Nat.pow_mul,kl x e]
theorem JH:1%PN=1:=by decide
theorem NI{n:Int}{m:Nat}(h:n.toNat=m)(a:aN n):m^QN%PN=1:=by rw[<-h];exact a.2.2
theorem ML(x:Nat)(msg:LBy):kF (aG 4 x:Nat) (kG x msg:Nat) (kZ x msg:Nat) msg:=by
 refine⟨mQ (a:=4) kV x,mQ (a:=4) kV _,⟨by omega,?_⟩,?_⟩
 ·have h:kZ x msg<QN:=qx _ G
  have b:QN=2305843009213688669:=rfl;omega
 simp only[Int.toNat_natCast];unfold kZ;generalize pL (kG x msg) (aG 4 x) msg=e;unfold kG;generalize rB x msg=k;unfold aG;exact Le 4 k e x QN PN JH (NI rfl kV)
def mD:ByteArray:=⟨#[98,111,120]⟩
def mI:ByteArray:=⟨#[119,101,108,99,111,109,101]⟩
def rO:ByteArray:=⟨#[99,111,109,109,105,116,32,98,111,100,121]⟩
def dh:LBy:=jR 32 0#8
def dl(a:LBy):List Int:=(ms 10).map λi=>((aG 4 (lF (bQ a i)):Nat):Int)
def wJ(t:List (Int×Int))(n:Int):Nat:=((ofF t n).getD 0).toNat
def mk0(g:Grp)(a:Int)(b:List Chg)(c:LBy):Cmt:=⟨g.folder,g.epoch+1,g.last,a,b,dl c,[],[],dh,0,0⟩
noncomputable def dV(g:Grp)(a:Int)(b:List Chg)(c seed:LBy)(x:Int×Int):Bx:=
 ⟨x.2,x.1,(aG 4 (kr (eI seed mD [x.1,x.2])):Nat),fW (wJ (aJ g.tree b) x.2) (eI seed mD [x.1,x.2]) (mh (mk0 g a b c) mD [x.1,x.2]) (bQ c x.1.toNat)⟩
def fD(g:Grp)(a init:LBy):LBy:=rp (if g.epoch=0 then dh else init) (bQ a 9)
def fB(g:Grp)(a:Int)(c:List Chg)(b init seed:LBy)(y:Chg):Wl:=
 ⟨y.d,(aG 4 (kr (eI seed mI [y.d])):Nat),fW y.p.toNat (eI seed mI [y.d]) (mh (mk0 g a c b) mI [y.d]) (fD g b init)⟩
noncomputable def mk1(g:Grp)(a:Int)(b:List Chg)(c init seed:LBy):Cmt:=
 ⟨g.folder,g.epoch+1,g.last,a,b,dl c,(dF (aJ g.tree b) a).map (dV g a b c seed),(di a b).map (fB g a b c init seed),dh,0,0⟩
noncomputable def mk2(g:Grp)(a:Int)(c:List Chg)(b init seed:LBy):Cmt:=
 {mk1 g a c b init seed with confirm:=pk (fD g b init) (cM rO ((aA (mk1 g a c b init seed)).take 8))}
noncomputable def mkC(g:Grp)(a:Int)(x:Nat)(b:List Chg)(c init seed:LBy):Cmt:=
 {mk2 g a b c init seed with r:=(kG x (dk (mk2 g a b c init seed)):Nat),s:=(kZ x (dk (mk2 g a b c init seed)):Nat)}
theorem Ih(c:Cmt)(r s:Int):dk {c with r:=r,s:=s}=dk c:=by obtain⟨a,b,c,d,e,f,g,h,i,j,k⟩:=c;rfl
theorem Mm(g:Grp)(a:Int)(x:Nat)(b:List Chg)(c init seed:LBy):dk (mkC g a x b c init seed)=dk (mk2 g a b c init seed):=by unfold mkC;exact Ih _ _ _
theorem G7(c:Cmt)(k:LBy)(r s:Int)(h:k.length=32):({({c with confirm:=k}:Cmt)with r:=r,s:=s}:Cmt).confirm.length=32:=h
theorem GB(g:Grp)(a:Int)(x:Nat)(b:List Chg)(c init seed:LBy):(mkC g a x b c init seed).chg=b/\(mkC g a x b c init seed).parent=g.last/\(mkC g a x b c init seed).box=(dF (aJ g.tree b) a).map (dV g a b c seed)/\
 (mkC g a x b c init seed).wel=(di a b).map (fB g a b c init seed)/\(mkC g a x b c init seed).confirm.length=32/\(mkC g a x b c init seed).path=dl c:=
 ⟨rfl,rfl,rfl,rfl,by unfold mkC mk2;exact G7 _ _ _ _ (oM _ _),rfl⟩
theorem Ac{b:LBy}:∀p∈dl b,aN p:=λp c=>by
 obtain⟨i,-,rfl⟩:=jf.1 c;exact mQ (a:=4) kV _
theorem iJ(a:LBy):(dl a).length=10:=by simp[dl]
theorem Ek{a:Int}{l:List Chg}{y:Chg}:y∈di a l↔y∈l/\y.k≠2/\y.d≠a:=by
 unfold di eV;rw[(jO _ _).mem_iff,jW];simp[kI]
theorem zv(a:Int)(l:List Chg):(di a l).length<=l.length:=by
 unfold di eV;rw[(jO _ _).length_eq];exact qt _ _
theorem lG(p seed hd b):(fW p seed hd b).length=b.length+16:=Nz _ _ _ _
theorem kv(g leaf init):(fD g leaf init).length=32:=tR _ _
theorem GH{l:List Int}(h:l.Pairwise (·<·)){i:Nat}(b:0<i)(a:i<l.length):l.getD (i-1) 0<l.getD i 0:=by
 rw[eh _ Y,eh _ a];exact(ob.1 h) (i-1) i Y a Y
theorem yM{g:Grp}{a:Int}{x:Nat}{c:List Chg}{d init seed:LBy}(p:ci g a c=0)(z:g.epoch<1099511627776)(hk:dp g a c=(aG 4 x:Nat))(q:d.length=32):wR g (mkC g a x c d init seed):=by
 obtain⟨h,f,j⟩:=lY.1 p;have r:=(mJ c _ (kC h.tree) (sk h f j)).1;have s:=zL h f j;obtain⟨l,m⟩:=Kz s;have o:((di a c).map (fB g a c d init seed)).map Wl.dev=(di a c).map Chg.d:=by rw[jQ];rfl
 have t:((di a c).map Chg.d).Pairwise (·<·):=NT (f.once.sublist (p6.map _));refine⟨h,?_,rfl,rfl,rfl,f,j,?_,o,?_,?_⟩
 ·refine⟨h.fol,⟨by have:=h.ep.1;show 1<=g.epoch+1;omega,by show g.epoch+1<=_;omega⟩,⟨l,m⟩,f,iJ d,?_,?_,Ac,?_,?_,?_⟩
  ·show((dF (aJ g.tree c) a).map _).length<=1024
   rw[jc];have:=zx (aJ g.tree c) l m;omega
  ·show((di a c).map _).length<=512
   rw[jc];have:=zv a c;have:=f.len;omega
  ·intro b e
   obtain⟨⟨k,n⟩,i,rfl⟩:=jf.1 e;obtain⟨⟨u,v⟩,⟨w,y⟩,-,-⟩:=Cw r l m i;refine⟨w,y,u,v,mQ (a:=4) kV _,?_,?_⟩
   ·show 16<=(fW _ _ _ _).length
    rw[lG];omega
   show(fW _ _ _ _).length<=65552;rw[lG,dY d q];omega
  ·intro b e
   obtain⟨y,i,rfl⟩:=jf.1 e;have k:=(f.each y (Ek.1 i).1).1;refine⟨k,mQ (a:=4) kV _,?_,?_⟩
   ·show 16<=(fW _ _ _ _).length
    rw[lG];omega
   show(fW _ _ _ _).length<=65552;rw[lG,kv];omega
  intro i b k;have e:(mkC g a x c d init seed).wel.map Wl.dev=(di a c).map Chg.d:=o;rw[e];refine GH t b ?_;rw[<-e,jc];exact k
 ·show((dF (aJ g.tree c) a).map (dV g a c d seed)).map _ =_
  rw[jQ];exact(qm (λy _=>rfl)).trans (List.map_id _)
 ·show kF (dp g a c) _ _ _
  rw[hk,Mm];exact ML x _
 exact(Nq h f j (iJ d) Ac).1
def IR(x:Int):Prop:=-9223372036854775808<=x/\x<9223372036854775808
theorem IR.of{x:Int}(h:I64 x):IR x:=by
 have:=bounds_i64 h;unfold IR;omega
structure fh(c:Cmt):Prop where
 ints:IR c.folder/\IR c.epoch/\IR c.author/\IR c.r/\IR c.s
 plen:c.parent.length=32
 clen:c.confirm.length=32
 chg:c.chg.length<=64/\∀x∈c.chg,IR x.k/\IR x.d/\IR x.p/\IR x.v/\IR x.c
 path:c.path.length<=12/\∀x∈c.path,IR x
 box:c.box.length<=1024/\∀b∈c.box,IR b.node/\IR b.lev/\IR b.u/\b.body.length<=200
 wel:c.wel.length<=512/\∀b∈c.wel,IR b.dev/\IR b.u/\b.body.length<=200
theorem bS{f:Nat}{n:Int}(h:IR n):wfV f (vI n):=by unfold vI;cases f<;>rw[wfV]<;>exact .inl ⟨rfl,h.1,h.2,rfl,rfl⟩
theorem tu(b:LBy):(ofB b).size=b.length:=by rw[<-et,m9]
theorem nA{f:Nat}{b:LBy}(h:b.length<=1000000):wfV f (vT b):=by unfold vT;cases f<;>rw[wfV]<;>exact .inr (.inl ⟨rfl,rfl,by rw[tu];omega,rfl⟩)
theorem fK{f:Nat}{l:List Val}(h:∀x∈l,wfV f x)(a:l.length<=1000000):wfV (f+1) (vL l):=by unfold vL;rw[wfV];exact .inr (.inr ⟨rfl,rfl,rfl,by omega,h⟩)
theorem dL{n:Int}(h:IR n):(enc (vI n)).length<=11:=by
 unfold vI;rw[enc,if_pos rfl,jn];have:=kh _ (oR n h.1 h.2);omega
theorem pN{b:LBy}(h:b.length<=1000000):(enc (vT b)).length<=11+b.length:=by
 unfold vT;rw[enc,if_neg G,if_pos rfl,jn,jk,m9,tu];have:=kh b.length Y;omega
theorem iF{l:List Val}(h:l.length<=1000000):(enc (vL l)).length<=11+(encs l).length:=by
 rw[gN,jn,jk];have:=kh l.length Y;omega
theorem mO{m:Nat}:∀{l:List Val},(∀x∈l,(enc x).length<=m)->(encs l).length<=l.length*m
 |[],_=>by simp[encs]
 |x::l,h=>by
  rw[encs,jk,jn];have b:=h x (js ..);have c:=mO (l:=l) λy a=>h y (jy _ a)
  rw[Nat.succ_mul];omega
theorem m5(x:Val)(l:List Val):encs (x::l)=enc x++encs l:=by rw[encs]
theorem GY{x:Chg}(h:IR x.k/\IR x.d/\IR x.p/\IR x.v/\IR x.c)(f:Nat):wfV (f+1) x.val/\(enc x.val).length<=66:=by
 obtain⟨a,b,c,d,e⟩:=h;refine⟨fK (λy g=>?_) av,?_⟩
 ·simp only[jm,j4,or_false]at g
  rcases g with rfl|rfl|rfl|rfl|rfl
  ·exact bS a
  ·exact bS b
  ·exact bS c
  ·exact bS d
  exact bS e
 refine jh (iF av) ?_;have:=dL a;have:=dL b;have:=dL c;have:=dL d;have:=dL e;simp only[m5,jk,encs,jE];omega
theorem Gb{x:Bx}(h:IR x.node/\IR x.lev/\IR x.u/\x.body.length<=200)(f:Nat):wfV (f+1) x.val/\(enc x.val).length<=300:=by
 obtain⟨a,b,c,d⟩:=h;refine⟨fK (λy e=>?_) av,?_⟩
 ·simp only[jm,j4,or_false]at e
  rcases e with rfl|rfl|rfl|rfl
  ·exact bS a
  ·exact bS b
  ·exact bS c
  exact nA Y
 refine jh (iF av) ?_;have:=dL a;have:=dL b;have:=dL c;have:=pN (b:=x.body) Y;simp only[m5,jk,encs,jE];omega
theorem Mb{x:Wl}(h:IR x.dev/\IR x.u/\x.body.length<=200)(f:Nat):wfV (f+1) x.val/\(enc x.val).length<=300:=by
 obtain⟨a,b,d⟩:=h;refine⟨fK (λy c=>?_) av,?_⟩
 ·simp only[jm,j4,or_false]at c
  rcases c with rfl|rfl|rfl
  ·exact bS a
  ·exact bS b
  exact nA Y
 refine jh (iF av) ?_;have:=dL a;have:=dL b;have:=pN (b:=x.body) Y;simp only[m5,jk,encs,jE];omega
theorem fh.encOk{c:Cmt}(h:fh c):dy (aA c):=by
 obtain⟨e,f,g,i,j⟩:=h.ints;have k:∀x∈c.chg.map Chg.val,wfV 14 x/\(enc x).length<=66:=λx a=>by
  obtain⟨y,d,rfl⟩:=jf.1 a;exact GY (h.chg.2 y d) 13
 have m:∀x∈c.path.map vI,wfV 14 x/\(enc x).length<=11:=λx a=>by
  obtain⟨y,d,rfl⟩:=jf.1 a;exact⟨bS (h.path.2 y d),dL (h.path.2 y d)⟩
 have n:∀x∈c.box.map Bx.val,wfV 14 x/\(enc x).length<=300:=λx a=>by
  obtain⟨y,d,rfl⟩:=jf.1 a;exact Gb (h.box.2 y d) 13
 have o:∀x∈c.wel.map Wl.val,wfV 14 x/\(enc x).length<=300:=λx a=>by
  obtain⟨y,d,rfl⟩:=jf.1 a;exact Mb (h.wel.2 y d) 13
 have d:(c.chg.map Chg.val).length<=64:=by rw[jc];exact h.chg.1
 have p:(c.path.map vI).length<=12:=by rw[jc];exact h.path.1
 have q:(c.box.map Bx.val).length<=1024:=by rw[jc];exact h.box.1
 have r:(c.wel.map Wl.val).length<=512:=by rw[jc];exact h.wel.1
 have s:=iF (l:=c.chg.map Chg.val) Y;have t:=iF (l:=c.path.map vI) Y;have u:=iF (l:=c.box.map Bx.val) Y;have v:=iF (l:=c.wel.map Wl.val) Y;have w:=jh (mO λx a=>(k x a).2) (jP 66 d);have y:=jh (mO λx a=>(m x a).2) (jP 11 p);have z:=jh (mO λx a=>(n x a).2) (jP 300 q);have B:=jh (mO λx a=>(o x a).2) (jP 300 r);have C:=pN (b:=c.parent) (by rw[h.plen];decide);have D:=pN (b:=c.confirm) (by rw[h.clen];decide);have E:=dL e;have F:=dL f;have H:=dL g;have K:=dL i;have M:=dL j;have P:=h.plen;have Q:=h.clen;refine⟨fK (λx a=>?_) (by simp[aA]),?_⟩
 ·unfold aA at a
  simp only[jm,j4,or_false]at a
  rcases a with rfl|rfl|rfl|rfl|rfl|rfl|rfl|rfl|rfl|rfl|rfl
  ·exact bS e
  ·exact bS f
  ·exact nA Y
  ·exact bS g
  ·exact fK (λx a=>(k x a).1) Y
  ·exact fK (λx a=>(m x a).1) Y
  ·exact fK (λx a=>(n x a).1) Y
  ·exact fK (λx a=>(o x a).1) Y
  ·exact nA Y
  ·exact bS i
  exact bS j
 refine jh (iF (by simp[aA])) ?_;unfold aA;simp only[m5,jk,encs,jE];omega
theorem Ag{c:Cmt}{nums:List Int}(d:IR c.folder)(f:IR c.epoch)(g:IR c.author)(k:c.parent.length=32)(h:∀x∈nums,IR x)(l:nums.length<=2):dy ((aA c).take 4++nums.map vI):=by
 have e:(aA c).take 4=[vI c.folder,vI c.epoch,vT c.parent,vI c.author]:=rfl;have m:=pN (b:=c.parent) (by rw[k];decide);have n:=dL d;have o:=dL f;have p:=dL g;have i:∀x∈nums.map vI,wfV 15 x/\(enc x).length<=11:=λx a=>by
  obtain⟨y,j,rfl⟩:=jf.1 a;exact⟨bS (h y j),dL (h y j)⟩
 have j:(nums.map vI).length<=2:=by rw[jc];exact l
 have q:=jh (mO λx a=>(i x a).2) (jP 11 j);rw[e];refine⟨fK (λx a=>?_) (by rw[jk];simp only[jn,jE];omega),?_⟩
 ·rw[jG]at a
  rcases a with a|a
  ·simp only[jm,j4,or_false]at a
   rcases a with rfl|rfl|rfl|rfl
   ·exact bS d
   ·exact bS f
   ·exact nA Y
   exact bS g
  exact(i x a).1
 refine jh (iF (by rw[jk];simp only[jn,jE];omega)) ?_;rw[oP,jk];simp only[m5,jk,encs,jE];omega
theorem C8{s:ByteArray}{nums:List Int}(f:s.size<=1000)(b:∀x∈nums,IR x)(e:nums.length<=2):wP s nums:=by
 have c:∀x∈nums.map vI,wfV 15 x/\(enc x).length<=11:=λx a=>by
  obtain⟨y,d,rfl⟩:=jf.1 a;exact⟨bS (b y d),dL (b y d)⟩
 have d:(nums.map vI).length<=2:=by rw[jc];exact e
 have g:=jh (mO λx a=>(c x a).2) (jP 11 d);have h:(enc (.mk 2 0 s [])).length<=11+s.size:=by
  rw[enc,if_neg G,if_pos rfl,jn,jk,et];have:=kh s.size Y;omega
 refine⟨fK (λx a=>?_) (by rw[jn];omega),?_,by omega⟩
 ·rcases jm.1 a with rfl|a
  ·rw[wfV];exact .inr (.inl ⟨rfl,rfl,by omega,rfl⟩)
  exact(c x a).1
 unfold iz;refine jh (iF (by rw[jn];omega)) ?_;rw[m5,jk];omega
theorem kW{x:Int}(h:aN x):IR x:=⟨by have:=h.1;omega,by have:=h.2.1;omega⟩
theorem Dn{g:Grp}{a:Int}{x:Nat}{f:List Chg}{i init seed:LBy}(l:ci g a f=0)(t:g.epoch<1099511627776)(hk:dp g a f=(aG 4 x:Nat))(m:i.length=32)(u:g.last.length=32):fh (mkC g a x f i init seed):=by
 have h:=yM (seed:=seed) (init:=init) l t hk m;obtain⟨n,v,w,z,B,M⟩:=GB g a x f i init seed;have j:∀b∈(mkC g a x f i init seed).box,b.body.length<=200:=λb j=>by
  rw[w]at j;obtain⟨y,-,rfl⟩:=jf.1 j;unfold dV;show(fW _ _ _ _).length<=200;rw[lG,dY i m];omega
 have C:∀b∈(mkC g a x f i init seed).wel,b.body.length<=200:=λb j=>by
  rw[z]at j;obtain⟨y,-,rfl⟩:=jf.1 j;unfold fB;show(fW _ _ _ _).length<=200;rw[lG,kv];omega
 generalize mkC g a x f i init seed=c at*;obtain⟨P,o,q⟩:=lY.1 l;have D:∀x∈f,IR x.k/\IR x.d/\IR x.p/\IR x.v/\IR x.c:=λy E=>by
  obtain⟨⟨p,r⟩,hk⟩:=o.each y E;have k:IR y.d:=⟨by omega,by omega⟩
  rcases hk with⟨a,b,c,d⟩|⟨a,b,c,d,e⟩|⟨a,b,c,d,e⟩
  ·exact⟨by rw[a];exact⟨by omega,by omega⟩,k,kW b,kW c,by rw[d];exact⟨by omega,by omega⟩⟩
  ·exact⟨by rw[a];exact⟨by omega,by omega⟩,k,by rw[b];exact⟨by omega,by omega⟩,by rw[c];exact⟨by omega,by omega⟩,⟨by omega,by omega⟩⟩
  exact⟨by rw[a];exact⟨by omega,by omega⟩,k,kW b,kW c,⟨by omega,by omega⟩⟩
 have Q:=h.chk.ep;have k:=h.chk.fol;have r:=h.chk.aut;have F:=h.ver.2.1;have s:=h.ver.2.2.1;refine⟨⟨⟨by have:=k.1;omega,by have:=k.2;omega⟩,⟨by omega,by omega⟩,⟨by have:=r.1;omega,by have:=r.2;omega⟩,kW F,⟨by have:=s.1;omega,by have:=s.2;omega⟩⟩,by rw[v];exact u,B,⟨by rw[n];exact o.len,by rw[n];exact D⟩,⟨by have:=h.chk.plen;omega,λp q=>kW (h.chk.path p q)⟩,⟨h.chk.blen,λb d=>?_⟩,⟨h.chk.wlen,λb d=>?_⟩⟩
 ·obtain⟨H,K,R,S,e⟩:=h.chk.box b d
  exact⟨⟨by omega,by omega⟩,⟨by omega,by omega⟩,kW e.1,j b d⟩
 obtain⟨⟨H,K⟩,e⟩:=h.chk.wel b d;exact⟨⟨by omega,by omega⟩,kW e.1,C b d⟩
def nx(k:Int):List Val->Option (Val×List Val)
 |[]=>hF
 |x::l=>if x.k=k then T (x,l)else hF
def rI(l:List Val):Option (Int×List Val):=(nx 1 l).map λr=>(r.1.n,r.2)
def rT(l:List Val):Option (ByteArray×List Val):=(nx 2 l).map λr=>(r.1.s,r.2)
def rD(l:List Val):Option (LBy×List Val):=(rT l).bind λr=>if r.1.size=32 then T (aK r.1,r.2)else hF
def rW(l:List Val):Option ((Int×LBy)×List Val):=(rI l).bind λa=>(rT a.2).map λb=>((a.1,aK b.1),b.2)
def rL(l:List Val):Option (List Val×List Val):=(nx 3 l).map λr=>(r.1.l,r.2)
def gR(l:List Val):Option Chg:=
 (rI l).bind λa=>(rI a.2).bind λb=>(rI b.2).bind λc=>(rI c.2).bind λd=>(rI d.2).map λe=>⟨a.1,b.1,c.1,d.1,e.1⟩
def rBx(l:List Val):Option Bx:=(rI l).bind λa=>(rI a.2).bind λb=>(rW b.2).map λc=>⟨a.1,b.1,c.1.1,c.1.2⟩
def rWl(l:List Val):Option Wl:=(rI l).bind λa=>(rW a.2).map λc=>⟨a.1,c.1.1,c.1.2⟩
def bF{α:Type}(f:List Val->Option α):List Val->Option (List α)
 |[]=>T []
 |v::l=>if v.k=3 then(f v.l).bind λa=>(bF f l).map (a::·)else hF
def cP:List Val->Option (List Int)
 |[]=>T []
 |v::l=>if v.k=1 then(cP l).map (v.n::·)else hF
def fx(v:Val):Option Cmt:=
 (rI v.l).bind λa=>(rI a.2).bind λb=>(rD b.2).bind λp=>(rI p.2).bind λau=>(rL au.2).bind λc=>(bF gR c.1).bind λh=>
 (rL c.2).bind λd=>(cP d.1).bind λi=>(rL d.2).bind λe=>(bF rBx e.1).bind λbox=>(rL e.2).bind λf=>(bF rWl f.1).bind λwel=>
 (rD f.2).bind λg=>(rI g.2).bind λr=>(rI r.2).map λs=>⟨a.1,b.1,p.1,au.1,h,i,box,wel,g.1,r.1,s.1⟩
def gK:List PanicEntry:=[{v:=.iface 35 (I N 10),recovered:=false}]
theorem oF(r:hZ)(w:hU):ja ih 32 #[r,.bool true] w λe w'=>e=jb (jl #[])/\w=w':=by
 go_enter func32,ntmps32
 go_wp2
 go_end0
 exact⟨rfl,rfl⟩
theorem nI(r:hZ)(w:hU):ja ih 32 #[r,.bool false] w λe w'=>e=.panicked gK/\w=w':=by
 go_enter func32,ntmps32
 go_wp2
 exact⟨rfl,rfl,rfl⟩
theorem GC{P:kn}(t e:jo)(b:P.underlying t=T (.slice e))(i:∀w,(sizeOf e).run P w=.ok 1 w)(p:Option jp)(n c l:Nat)(k:l<=n)(m:n<=c)(j:p=hF->c=0):
 ∃d,(∀W,(Instr.sliceAt t (hH p n c) (T (I N (l:Int))) hF hF).run P W=.ok (hH d (n-l) (c-l)) W)/\(d=hF->p=hF)/\(0<n-l->∀g o,p=T ⟨g,o,hF⟩->d=T ⟨g,o+l,hF⟩):=by
 have he:P.elem t=e:=by simp[Program.elem,b]
 rcases p with _|a
 ·obtain rfl:=j rfl
  obtain rfl:n=0:=Y;obtain rfl:l=0:=Y;refine⟨hF,λW=>?_,λ_=>rfl,λh=>absurd h Y⟩;rw[qM W t _ _ _ _ (by rw[he];exact b),run_slice_l W t _ 0 0 (by rw[he];exact b) .i64 _ Y Y,he];simp[i,Result.andThen,sliced]
 refine⟨T (if c=l then a else a.add l),λW=>?_,λh=>(by cases h),λh g o f=>?_⟩
 ·rw[qM W t _ _ _ _ (by rw[he];exact b),run_slice_l W t _ n c (by rw[he];exact b) .i64 _ Y Y,he]
  simp[i,Result.andThen,sliced]
  by_cases h:c=l
  ·simp[h]
  rw[if_neg Y,if_neg h]
 injection f with f
 subst f;rw[if_neg Y];simp[Addr.add]
theorem JB{P:kn}(t e:jo)(a:P.underlying t=T (.slice e))(b:∀w,(sizeOf e).run P w=.ok 1 w)(p:Option jp)(n c l:Nat)(d:l<=c)(W:hU):
 (Instr.sliceAt t (hH p n c) hF (T (I N (l:Int))) (T (I N (l:Int)))).run P W=.ok (hH p l l) W:=by
 have he:P.elem t=e:=by simp[Program.elem,a]
 rw[qM W t _ _ _ _ (by rw[he];exact a),run_slice_hm W t _ n c (by rw[he];exact a) .i64 .i64 _ _ Y Y Y,he]
 cases p<;>simp[b,Result.andThen,sliced,Addr.add]
theorem zn:∀w,(sizeOf 5).run ih w=.ok 1 w:=λw=>by go_simp
def RdC(w:hU)(R:Nat)(l:LBy):Prop:=∃(p:Option jp) (c:Nat),w.heap[R]?=T (hK #[hH p l.length c] 90 (0,0))/\ah (·<R) w (hH p l.length c) 1 l.length (l.map v8)
theorem RdC.but{w w':hU}{R:Nat}{l:LBy}(h:RdC w R l)(hk:∀k,k<w.heap.size->w'.heap[k]?=w.heap[k]?):RdC w' R l:=by
 obtain⟨p,c,a,b⟩:=h;have d:R<w.heap.size:=(jq.1 a).1;exact⟨p,c,(hk R d).trans a,b.keep (λg (e:g<R)=>hk g Y)⟩
theorem RdC.lt{w:hU}{R:Nat}{l:LBy}(h:RdC w R l):R<w.heap.size:=by
 obtain⟨p,c,a,-⟩:=h;exact(jq.1 a).1
theorem ah.takeB{D:Nat->Prop}{w:hU}{p:Option jp}{a c n:Nat}{l:LBy}(h:ah D w (hH p a c) 1 a (l.map v8))(v:n<=a):ah D w (hH p n n) 1 n ((l.take n).map v8):=by
 obtain⟨d,x,y,e,z,f,i⟩:=h;injection e with k B m
 subst k;subst m;have q:l.length=a:=by simpa using d
 refine⟨by simp[q];omega,p,n,rfl,je _,λr=>by have:=f r;omega,λC=>?_⟩;obtain⟨g,o,ep,s,t⟩:=i Y;refine⟨g,o,ep,s,λj u b=>t j u ?_⟩;rw[List.map_take,List.getElem?_take]at b
 split at b
 ·exact b
 cases b
theorem ah.dropB{D:Nat->Prop}{w:hU}{p b:Option jp}{a c n:Nat}{l:LBy}(h:ah D w (hH p a c) 1 a (l.map v8))(B:n<=a)(f:b=hF->p=hF)(i:0<a-n->∀g o,p=T ⟨g,o,hF⟩->b=T ⟨g,o+n,hF⟩):ah D w (hH b (a-n) (c-n)) 1 (a-n) ((l.drop n).map v8):=by
 obtain⟨k,C,E,e,F,m,q⟩:=h;injection e with r H s
 subst r;subst s;have t:l.length=a:=by simpa using k
 refine⟨by simp[t],b,c-n,rfl,by omega,λu=>by have:=m (f u);omega,λv=>?_⟩;obtain⟨g,o,ep,x,y⟩:=q Y;refine⟨g,o+n,i v g o ep,x,λj z d=>?_⟩;rw[qe];exact y (n+j) z (by rw[List.map_drop,List.getElem?_drop]at d;exact d)
theorem na{w:hU}{b i k:Nat}(v:hZ)(h:k≠b):(w.setCell ⟨b,i,hF⟩ v).heap[k]?=w.heap[k]?:=rv _ _ _ _ h
theorem Mc{w:hU}{b i:Nat}{cs:Array hZ}{t:jo}(v:hZ)(h:w.heap[b]?=T (hK cs t (0,0))):(w.setCell ⟨b,i,hF⟩ v).heap[b]?=T (hK (cs.setIfInBounds i v) t (0,0)):=by
 show(w.heap.modify b _)[b]?=_;rw[qA];simp[h]
theorem rQ(w:hU)(a:jp)(v:hZ):(w.setCell a v).heap.size=w.heap.size:=by simp[r3]
theorem K5(w:hU)(R i:Nat)(v:hZ):aD R w.heap.size w (w.setCell ⟨R,i,hF⟩ v):=⟨rfl,rfl,rfl,qH (rQ _ _ _).symm,λk _ a=>na v a⟩
theorem uG(R n:Nat)(l:LBy)(w:hU)(h:RdC w R l)(d:n<=l.length)(v:l.length<=1000000):
 ja ih 82 #[jd (T ⟨R,0,hF⟩),I N (n:Int)] w λe w'=>∃p,e=jb (hH p n n)/\ah (·<R) w' (hH p n n) 1 n ((l.take n).map v8)/\RdC w' R (l.drop n)/\aD R w.heap.size w w':=by
 obtain⟨p,c,b,f⟩:=h;obtain⟨r,H,K,e,g,j,k⟩:=id f;injection e with x m y
 subst x;subst y;obtain⟨a,o⟩:=J l.length;rw[<-o]at b f r g k d v;have z:n<=c:=Y;obtain⟨q,M,s,t⟩:=GC 32 5 underlying32 zn p a c n d g j;have P:=JB 32 5 underlying32 zn p a c n z;have Q:=ap ((n:Int)<=(a:Int));have S:=ap (n<=a);have U:w.cell? ⟨R,0,hF⟩=T (hH p a c):=cell_of b rfl;obtain⟨-,V,-,-⟩:=bP (i:=0) (hH q (a-n) (c-n)) b av;have B:=O b;have u:=O f;have C:=O o;have W:=O j;have X:=O k;have D:=O s;have E:=O t;have F:=O (oF (jd (T ⟨R,0,hF⟩)) w);clear b f r g j k s t o
 go_enter func82,ntmps82
 go_wp2_with fail
 refine F.mono ?_;rintro e w' ⟨rfl,rfl⟩
 go_wp2_with fail
 go_ret;have b:=Mc (i:=0) (hH q (a-n) (c-n)) B;have m:(l.drop n).length=a-n:=by rw[List.length_drop,C]
 refine⟨p,rfl,(u.takeB d).keep (λg (f:g<R)=>na _ Y),⟨q,c-n,by rw[m];exact b,?_⟩,K5 _ _ _ _⟩;rw[m];exact(u.dropB d D E).keep (λg (f:g<R)=>na _ Y)
theorem B9(R n:Nat)(l:LBy)(w:hU)(h:RdC w R l)(f:l.length<n)(j:n<=1000000):
 ja ih 82 #[jd (T ⟨R,0,hF⟩),I N (n:Int)] w λe w'=>e=.panicked gK/\w=w':=by
 obtain⟨p,c,a,g⟩:=h;obtain⟨b,d⟩:=J l.length;rw[<-d]at a f;have k:=ar ((n:Int)<=(b:Int));have m:=ar (n<=b);have o:w.cell? ⟨R,0,hF⟩=T (hH p b c):=cell_of a rfl;have i:=O (nI (jd (T ⟨R,0,hF⟩)) w);clear a g d
 go_enter func82,ntmps82
 go_wp2_with fail
 refine i.mono ?_;rintro e w' ⟨rfl,rfl⟩;exact⟨rfl,rfl,rfl⟩
theorem DT{f i:Nat}{b:BitVec 8}{l:LBy}(h:¬((i=0\/b≠0#8)/\(i<9\/b.toNat<=1))):bG f i (b::l)=hF:=by
 cases f<;>simp only[bG,if_neg h]
theorem uf{f i:Nat}{b:BitVec 8}{l:LBy}(h:(i=0\/b≠0#8)/\(i<9\/b.toNat<=1))(a:b.toNat<128):bG f i (b::l)=T (b.toNat,l):=by
 cases f<;>simp only[bG,if_pos h,if_pos a]
theorem Dz{f i:Nat}{b:BitVec 8}{l:LBy}(h:(i=0\/b≠0#8)/\(i<9\/b.toNat<=1))(a:¬b.toNat<128):bG (f+1) i (b::l)=(bG f (i+1) l).map λr=>(b.toNat%128+128*r.1,r.2):=by
 simp only[bG,if_pos h,if_neg a]
theorem I0(k:Nat)(hk:k<256):bits .and .u8 (k:Int) 127=((k%128:Nat):Int):=by
 have h:∀j:Fin 256,bits .and .u8 ((j.val:Nat):Int) 127=((j.val%128:Nat):Int):=by decide+kernel
 exact h ⟨k,hk⟩
theorem yJ(a k i r:Nat):a+2^(7*i)*(k%128+128*r)=a+2^(7*i)*(k%128)+2^(7*(i+1))*r:=by
 have e:2^(7*(i+1))=2^(7*i)*128:=by rw[show 7*(i+1)=7*i+7 by omega,qg]
 rw[e,Nat.mul_add,Nat.mul_assoc,qe]
theorem Ay(a k i:Nat)(h:a<2^(7*i)):a+2^(7*i)*(k%128)<2^(7*(i+1)):=by
 have e:2^(7*(i+1))=2^(7*i)*128:=by rw[show 7*(i+1)=7*i+7 by omega,qg]
 have b:2^(7*i)*(k%128)<=2^(7*i)*127:=qI _ Y;rw[e];omega
theorem tq(a k i:Nat)(h:a<2^(7*i))(hk:k<256)(b:i<9\/k<=1)(j:i<=9):
 bits .or .u64 (a:Int) (j5.wrap (j5.wrap (bits .and .u8 (k:Int) 127)*2^(7*i)))=((a+2^(7*i)*(k%128):Nat):Int):=by
 have c:2^(7*i)*(k%128)<2^64:=by
  rcases b with b|b
  ·have e:2^(7*i)*(k%128)<=2^(7*i)*127:=qI _ Y
   have d:2^(7*i)<=2^56:=oi Y Y;have:2^(7*i)*127<=2^56*127:=jP _ d;have:(2:Nat)^56*127<2^64:=by decide
   omega
  have e:2^(7*i)*(k%128)<=2^(7*i)*1:=qI _ Y;have d:2^(7*i)<=2^63:=oi Y Y;have:(2:Nat)^63<2^64:=by decide
  omega
 have d:a<2^64:=jz h (oi Y Y);have e:j5.wrap (bits .and .u8 (k:Int) 127)=((k%128:Nat):Int):=by rw[I0 k hk,r4];omega
 have f:(((k%128:Nat):Int)*2^(7*i))=((2^(7*i)*(k%128):Nat):Int):=by rw[Int.natCast_mul,Int.natCast_pow,Int.mul_comm];rfl
 have g:j5.wrap ((2^(7*i)*(k%128):Nat):Int)=((2^(7*i)*(k%128):Nat):Int):=by
  generalize 2^(7*i)*(k%128)=m at c;rw[r4];omega
 rw[e,f,g,bits_or_u64_nat _ _ d c,Nat.or_comm,<-Nat.two_pow_add_eq_or_of_lt h,Nat.add_comm]
theorem Ak(a k:Nat)(h:a<2^(7*0))(hk:k<256):bits .or .u64 (a:Int) (j5.wrap (j5.wrap (bits .and .u8 (k:Int) 127)))=((a+2^(7*0)*(k%128):Nat):Int):=by
 have b:=tq a k 0 h hk (.inl Y) Y;rw[show((2:Int)^(7*0))=1 from rfl,Int.mul_one]at b;exact b
def Hr(R:Nat)(w:hU)(o:Option (Nat×LBy))(e:Ending)(w':hU):Prop:=
 aD R w.heap.size w w'/\match o with
  |some r=>e=jb (I .u64 (r.1:Int))/\RdC w' R r.2
  |none=>e=.panicked gK
theorem B8(R:Nat)(l:LBy)(w:hU)(h:RdC w R l)(a:l.length<=1000000):
 ja ih 84 #[jd (T ⟨R,0,hF⟩)] w (Hr R w (bG 9 0 l)):=by
 have Wo:hQ (l.length<=1000000):=O a;obtain⟨o,d⟩:=J (bG 9 0 l);rw[<-d];have HO:=O d;have HR:=O h;clear h a d
 go_enter func84,ntmps84
 go_wp2_with fail
 go_loopw [2,3] (λc b wr=>∃(a i:Nat) (f:LBy),c=I .u64 a/\b=I N i/\i<=9/\hQ (a<2^(7*i))/\hQ (o=(bG (9-i) i f).map λr=>(a+2^(7*i)*r.1,r.2))/\hQ (RdC wr R f)/\hQ (aD R w.heap.size w wr)/\hQ (f.length<=1000000)) (λ_ b _=>9-(ji b).toNat)
 case atStart=>exact⟨0,0,l,rfl,rfl,by omega,O av,O (by rw[HO];simp),HR,O (aD.refl _ _ _),Wo⟩
 obtain⟨a,i,f,rfl,rfl,P,s,n,aa,Q,S⟩:=hrel
 rcases f with _|⟨b,f⟩
 ·have d:o=hF:=by rw[n];cases 9-i<;>rfl
  have t:=O d;clear d
  go_wp2_with fail
  refine(B9 R 1 [] wr aa av Y).mono ?_;rintro e w' ⟨rfl,rfl⟩;exact⟨rfl,Q,by rw[t]⟩
 go_wp2_with fail
 refine(uG R 1 (b::f) wr aa av S).mono ?_;rintro e F ⟨p,rfl,hs,j,m⟩;obtain⟨-,p',c',e,-,-,H⟩:=hs;injection e with e1 q v
 subst e1;obtain⟨g,o1,rfl,-,H⟩:=H G;have d0:F.cell? ⟨g,o1,hF⟩=T (I .u8 (b.toNat:Int)):=H 0 _ rfl;obtain⟨k,hk⟩:=J b.toNat;have z:k<256:=by rw[hk];exact b.isLt
 rw[<-hk]at d0;have c:=O hk;replace j:RdC F R f:=j;have B:=O j;have u:=O (Q.trans m Q.size);have C:=O (oF (jd (T ⟨R,0,hF⟩)) F);have ad:=O (nI (jd (T ⟨R,0,hF⟩)) F);clear j m H hk q v;have v:k=0↔b=0#8:=by rw[c];exact⟨λh=>qU (by simpa using h),λh=>by rw[h];rfl⟩
 by_cases h0:i=0
 ·subst h0
  have j:hQ ((0=0\/b≠0#8)/\(0<9\/k<=1)):=O ⟨.inl rfl,.inl Y⟩;clear v
  by_cases x:k<128
  ·have K:=ap ((k:Int)<128)
   have M:=ap (k<128);have d:o=T (a+2^(7*0)*k,f):=by rw[n,uf (by rw[<-c];exact j) (by rw[<-c];exact x),<-c];rfl
   have t:=O d;have m:=O (Ak a k s z);have q:k%128=k:=Y;have D:=O q;clear d q
   go_wp2_with fail
   refine C.mono ?_;rintro e y ⟨rfl,rfl⟩
   go_wp2_with fail
   go_ret;exact⟨u,by rw[t];exact⟨mS (by rw[m,D]),B⟩⟩
  have K:=ar ((k:Int)<128);have M:=ar (k<128);have au:0<9:=by have:=j.2;omega
  have m:=O (Ak a k s z);have U:hQ (o=(bG (9-(0+1)) (0+1) f).map λr=>(a+2^(7*0)*(k%128)+2^(7*(0+1))*r.1,r.2)):=O (by
   have V:9-0=(9-(0+1))+1:=Y;rw[n,V,Dz (by rw[<-c];exact j) (by rw[<-c];exact x),<-c,sg]
   congr 1
   funext r
   simp only[Function.comp_apply,Prod.mk.injEq,and_true];exact yJ a k 0 r.1)
  have W:hQ (a+2^(7*0)*(k%128)<2^(7*(0+1))):=O (Ay a k 0 s)
  go_wp2_with fail
  refine C.mono ?_;rintro e y ⟨rfl,rfl⟩
  go_wp2_with fail
  refine⟨⟨_,1,f,congrArg (jH .u64) m,by rfl,by omega,W,U,B,u,O (by have:=S.out;simp at this;omega)⟩,?_⟩;simp only[ji];omega
 have t0:((i:Int)==0)=false:=by simp;omega
 by_cases al:k=0
 ·have t1:((k:Int)!=0)=false:=by simp;omega
  have X:hQ (o=hF):=O (by rw[n,DT (by rw[<-c];have:=v.1 al;intro h;rcases h.1 with h|h;exact h0 h;exact h this)];rfl);clear v
  go_wp2_with fail
  refine ad.mono ?_;rintro e y ⟨rfl,rfl⟩;exact⟨rfl,u,by rw[X]⟩
 have t1:((k:Int)!=0)=true:=by simp;omega
 have E:b≠0#8:=λh=>al (v.2 h)
 by_cases h9:i<9
 ·have t2:=ap ((i:Int)<9)
  have a1:=ap (i<9);have j:hQ ((i=0\/b≠0#8)/\(i<9\/k<=1)):=O ⟨.inr E,.inl h9⟩;clear v E
  by_cases x:k<128
  ·have K:=ap ((k:Int)<128)
   have M:=ap (k<128);have d:o=T (a+2^(7*i)*k,f):=by rw[n,uf (by rw[<-c];exact j) (by rw[<-c];exact x),<-c];rfl
   have t:=O d;have m:=O (tq a k i s z (a8 j.2) P);have q:k%128=k:=Y;have D:=O q;clear d q
   go_wp2_with fail
   refine C.mono ?_;rintro e y ⟨rfl,rfl⟩
   go_wp2_with fail
   go_ret;exact⟨u,by rw[t];exact⟨mS (by rw[m,D]),B⟩⟩
  have K:=ar ((k:Int)<128);have M:=ar (k<128);have au:i<9:=by have:=j.2;omega
  have m:=O (tq a k i s z Y P);have U:hQ (o=(bG (9-(i+1)) (i+1) f).map λr=>(a+2^(7*i)*(k%128)+2^(7*(i+1))*r.1,r.2)):=O (by
   have V:9-i=(9-(i+1))+1:=Y;rw[n,V,Dz (by rw[<-c];exact j) (by rw[<-c];exact x),<-c,sg]
   congr 1
   funext r
   simp only[Function.comp_apply,Prod.mk.injEq,and_true];exact yJ a k i r.1)
  have W:hQ (a+2^(7*i)*(k%128)<2^(7*(i+1))):=O (Ay a k i s)
  go_wp2_with fail
  refine C.mono ?_;rintro e y ⟨rfl,rfl⟩
  go_wp2_with fail
  refine⟨⟨_,i+1,f,congrArg (jH .u64) m,by go_num,by omega,W,U,B,u,O (by have:=S.out;simp at this;omega)⟩,?_⟩;simp only[ji];omega
 have t2:=ar ((i:Int)<9);have a1:=ar (i<9)
 by_cases r:k<=1
 ·have U:=ap ((k:Int)<=1)
  have V:=ap (k<=1);have j:hQ ((i=0\/b≠0#8)/\(i<9\/k<=1)):=O ⟨.inr E,.inr r⟩;clear v E
  by_cases x:k<128
  ·have K:=ap ((k:Int)<128)
   have M:=ap (k<128);have d:o=T (a+2^(7*i)*k,f):=by rw[n,uf (by rw[<-c];exact j) (by rw[<-c];exact x),<-c];rfl
   have t:=O d;have m:=O (tq a k i s z (a8 j.2) P);have q:k%128=k:=Y;have D:=O q;clear d q
   go_wp2_with fail
   refine C.mono ?_;rintro e y ⟨rfl,rfl⟩
   go_wp2_with fail
   go_ret;exact⟨u,by rw[t];exact⟨mS (by rw[m,D]),B⟩⟩
  omega
 have U:=ar ((k:Int)<=1);have V:=ar (k<=1);have X:hQ (o=hF):=O (by rw[n,DT (by rw[<-c];intro h;rcases h.2 with h|h;exact h9 h;exact r h)];rfl);clear v E
 go_wp2_with fail
 refine ad.mono ?_;rintro e y ⟨rfl,rfl⟩;exact⟨rfl,u,by rw[X]⟩
theorem RdC.cell{w:hU}{R:Nat}{l:LBy}(h:RdC w R l):∃p c,w.cell? ⟨R,0,hF⟩=T (hH p l.length c):=by
 obtain⟨p,c,a,-⟩:=h;exact⟨p,c,cell_of a rfl⟩
def EO(R:Nat)(w:hU)(o:Option (Nat×LBy))(e:Ending)(w':hU):Prop:=
 aD R w.heap.size w w'/\match o with
  |some r=>e=jb (I N (r.1:Int))/\RdC w' R r.2/\r.1<=r.2.length
  |none=>e=.panicked gK
theorem rq:∀(f i:Nat) (l:LBy) (r:Nat×LBy),bG f i l=T r->r.2.length<=l.length
 |f,i,[],r,h=>by cases f<;>simp[bG]at h
 |0,i,b::l,r,h=>by
  simp only[bG]at h
  split at h
  ·split at h
   ·injection h with h;rw[<-h];simp
   cases h
  cases h
 |f+1,i,b::l,r,h=>by
  simp only[bG]at h
  split at h
  ·split at h
   ·injection h with h;rw[<-h];simp
   cases hh:bG f (i+1) l with
   |none=>rw[hh]at h;cases h
   |some q=>
    rw[hh]at h;injection h with h
    rw[<-h];have:=rq f (i+1) l q hh;simp;omega
  cases h
theorem Ei(R:Nat)(l:LBy)(w:hU)(h:RdC w R l)(k:l.length<=1000000):
 ja ih 85 #[jd (T ⟨R,0,hF⟩)] w (EO R w (dT l)):=by
 have d:=O (B8 R l w h k);have f:=O (rq 9 0 l);obtain⟨o,a⟩:=J (bG 9 0 l);have b:dT l=o.bind λr=>if r.1<=r.2.length then T r else hF:=by rw[a];rfl
 rw[b];rw[<-a]at d f;clear b a h
 go_enter func85,ntmps85
 go_wp2_with fail
 refine d.mono ?_;rintro e m ⟨g,n⟩
 rcases o with _|r
 ·obtain rfl:e=.panicked gK:=n
  exact⟨rfl,g,rfl⟩
 obtain⟨a,r⟩:=r;obtain⟨rfl,h⟩:=n;have s:r.length<=1000000:=jh (f _ rfl) k;have q:=O g;have u:=O h;have v:=O (oF (jd (T ⟨R,0,hF⟩)) m);have x:=O (nI (jd (T ⟨R,0,hF⟩)) m);obtain⟨p,c,y⟩:=h.cell;obtain⟨b,i⟩:=J r.length;rw[<-i]at y s;have j:=O i;clear g h i d f
 by_cases d:a<=b
 ·have t:=ap ((a:Int)<=(b:Int))
  have g:=ap (a<=b);have f:hQ ((T (a,r)).bind (λr=>if r.1<=r.2.length then T r else hF)=T (a,r)):=O (by rw[sh,if_pos (by rw[<-j];exact d)])
  go_wp2_with fail
  refine v.mono ?_;rintro e h ⟨rfl,rfl⟩
  go_wp2_with fail
  go_ret;refine⟨q,?_⟩;rw[f];refine⟨mS ?_,u,by rw[<-j];exact d⟩
  rfl
 have t:=ar ((a:Int)<=(b:Int));have g:=ar (a<=b);have f:hQ ((T (a,r)).bind (λr=>if r.1<=r.2.length then T r else hF)=hF):=O (by rw[sh,if_neg (by rw[<-j];exact d)])
 go_wp2_with fail
 refine x.mono ?_;rintro e h ⟨rfl,rfl⟩;exact⟨rfl,q,by rw[f]⟩
theorem EI(m:Nat)(h:m<18446744073709551616):(jT 64 (m:Int)).toNat=m:=by
 rw[BitVec.ofInt_natCast,BitVec.toNat_ofNat];exact Nat.mod_eq_of_lt Y
theorem LL(m:Nat)(h:m<9223372036854775808):bits .xor .i64 (m:Int) 0=(m:Int):=by
 show mz.wrap ((jT 64 (m:Int)^^^jT 64 0).toNat:Int)=_;have e:(jT 64 0).toNat=0:=by decide+kernel
 rw[sn,EI m Y,e,Nat.xor_zero,qk];omega
theorem Iw(m:Nat)(h:m<9223372036854775808):bits .xor .i64 (m:Int) (-1)= -(m:Int)-1:=by
 show mz.wrap ((jT 64 (m:Int)^^^jT 64 (-1)).toNat:Int)=_;have e:(jT 64 (-1)).toNat=18446744073709551615:=by decide
 have b:m^^^18446744073709551615=18446744073709551615-m:=by
  have a:=xor_ones64 m Y;rw[show(18446744073709551615:Int)=((18446744073709551615:Nat):Int)from rfl,bits_xor_u64_nat m 18446744073709551615 Y Y]at a;exact Int.ofNat.inj a
 rw[sn,EI m Y,e,b,qk];omega
theorem Lt(a:Nat)(c:a<18446744073709551616)(w:hU):ja ih 83 #[I .u64 (a:Int)] w λe w'=>e=jb (I N (fI a))/\w=w':=by
 go_enter func83,ntmps83
 go_wp2
 go_ret;refine⟨mS ?_,rfl⟩;have d:bits .and .u64 (a:Int) 1=((a%2:Nat):Int):=by
  have h:=bits_and_u64_nat a 1 c Y;rw[Nat.and_one_is_mod]at h;exact h
 have f:(a:Int)/2=((a/2:Nat):Int):=Y;rw[d,f];unfold fI
 by_cases h:a%2=0
 ·rw[if_pos h,h]
  have b:wrap64 (-wrap64 ((0:Nat):Int))=0:=by decide+kernel
  rw[b];exact LL _ Y
 have g:a%2=1:=Y;rw[if_neg h,g];have b:wrap64 (-wrap64 ((1:Nat):Int))= -1:=by decide+kernel
 rw[b];exact Iw _ Y
theorem put_defers(a:Act)(d:Option Tmp)(v:hZ):(Act.put a d v).defers=a.defers:=by cases d<;>rfl
end Go.Proofs.YtpfafeammikibaaGreatDoor
