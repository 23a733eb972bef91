/- Contracts of functions that the law reaches, part 7 of 7; no condition. -/
import Derived.Test.YtpmlopbaafjefaaGreatDoorZJ6
namespace Go.Proofs.YtpmlopbaafjefaaGreatDoor
set_option maxHeartbeats 64000000
set_option maxRecDepth 100000
set_option linter.unusedVariables false
set_option linter.unusedSimpArgs false
set_option linter.unusedSectionVars false
open Go.RowKit
open Go.Proofs.Tryz
open Go renaming undef->I,Value->jf,World->jk,Calls->jr,maxLen->jB,TypeId->jF,wpOp_step->jG,setRow_other->jL,Oper->jO,wp_store_row->jV,setRow_heap->jZ,Operand->j5,wp_region_noPanic->j6,Ending->j7,wpList_plain->n0,below_setRow->p6
open _root_ renaming rfl->N,Int->jh,List->jo,Nat->jq,absurd->js,Array->ju,if_pos->jz,congrArg->jU,decide_eq_true->nv
open Go.Value renaming agg->ja,slice->jl,tuple->jv
open Go.RowKit renaming Hid->jb,Below->jm
open _root_.Option renaming some->jc,none->ji
open Go.Value renaming int->jd
open Go.IntKind renaming i64->je
open _root_.Bool renaming true->jg,false->jp
open Go.Obj renaming cells->jj
open Go.Proofs.Tryz renaming prog->jn
open Go.Ending renaming returned->jt
open _root_.Nat renaming lt_of_lt_of_le->jw,le_refl->jA,le_trans->jJ,zero_le->jS,add_mul->oj,zero_add->qc,le_of_eq->qh,lt_irrefl->qk
open Go.Value renaming int->jy,agg->j3,cells->mb,ownBlock->qg,tuple->qj,okWide->qn,oneCell'->qz
open _root_.List renaming size_toArray->jC,map_nil->jI,mem_cons->jK,length_map->jM,mem_nil_iff->jN,getElem?_eq_some_iff->jR,length_append->jT,getElem?_append_right->jW,getElem?_toArray->jX,map_cons->jY,mem_append->j0,take_length->j8,mem_singleton->ms,mem_of_getElem?->mz,getElem?_append_left->nn,getElem?_map->ob,length_take->ow,flatMap_cons->o1,toList_toArray->o8,length_singleton->pz,find?_append->qa,take_of_length_le->qb,append_assoc->qd,map_toArray->qe,length->qi,mem_toArray->ql,any_eq_true->qo,getElem?_take->qs,append_nil->qt,map_append->qv,flatMap_append->qw,take_append_of_le_length->qx,length_cons->qy,set_append_right->qA,flatMap_nil->qB,length_nil->qC
open Go.Proofs renaming intOf->jD
open Go.World renaming alloc_heap_new->jE,size_alloc->j1,ownsRow_nil->qf
open Go.RowKit.Below renaming refl->jH
open _root_.Array renaming getElem?_eq_some_iff->jP,all_eq_true_iff_forall_mem->j4,length_toList->j9,getElem?_toList->qu
open Go.NoPanic renaming normal->jQ
variable{f:jh}{w:jk}{b:jq}
theorem sT(p:Option Addr)(n c:jq)(w:jk):jr jn 59 #[jl p n c] w λe w'=>e=jt (.bool (decide (n<=10)))/\jm w w w':=by
 by_cases h:n<=10
 ·have b:=az ((n:jh)<=10)
  have a:=O (nv h)
  go_enter func59,ntmps59
  go_wp2_with fail
  go_ret;exact⟨by rw[a];rfl,jH _ _⟩
 have b:=aw ((n:jh)<=10);have a:=O (decide_eq_false h)
 go_enter func59,ntmps59
 go_wp2_with fail
 go_ret;exact⟨by rw[a];rfl,jH _ _⟩
theorem Nj(c:Cmt)(q:CQ)(w:jk)(a:aT (·<w.heap.size) w c q)(X:c.box.length<=jB)(l4:c.wel.length<=jB):
 jr jn 23 #[ja (aF c q).toArray] w λe w'=>(∃b,e=jt (.bool b)/\(b=jg->rq c))/\jm w w w':=by
 have B:=dQ.new w (q:=q) a.plen a.clen;have g:=ap w (jj (aF c q).toArray 37);obtain⟨C,D,H⟩:=a.chg.form;obtain⟨pp,cp,K⟩:=a.path.form;obtain⟨pb,cb,i⟩:∃p E,q.vb=jl p c.box.length E:=by obtain⟨us,h,-⟩:=a.box;exact h.form
 obtain⟨pw,cw,k⟩:∃p E,q.vw=jl p c.wel.length E:=by obtain⟨us,h,-⟩:=a.wel;exact h.form
 obtain⟨-,-,-,F,d,f,n,-,-⟩:=B.at;rw[H]at F;rw[K]at d;rw[i]at f;rw[k]at n;have YM:=O a.box;have WY:=O a.wel;have a2:=O i;have a3:=O k;obtain⟨u,m⟩:=J c.chg.length;obtain⟨np,o⟩:=J c.path.length;obtain⟨r,v⟩:=J c.box.length;obtain⟨s,x⟩:=J c.wel.length;rw[<-m]at F;rw[<-o]at d;rw[<-v]at f X a2;rw[<-x]at n l4 a3;replace X:r<=9223372036854775807:=X;replace l4:s<=9223372036854775807:=l4;have a4:=O m;have a5:=O o;have ZX:=O v;have YA:=O x;obtain⟨b,y⟩:=J w.heap.size;obtain⟨a6,M⟩:=J ((aF c q).toArray);rw[<-M]at g F d f n⊢;rw[<-y]at F d f n;obtain⟨W,z⟩:=J (w.alloc (jj a6 37));rw[<-z]at g F d f n;have P:=O z;have Q:=O y;have t:=O g;clear B g a H K i k m o v x y M z
 go_enter func23,ntmps23
 go_upto_region 1 with fail
 rw[<-P,<-Q];clear P Q
 go_wp2_with fail
 go_loopw [3] (λi wr=>∃k:jq,i=jd je k/\k<=r/\jb (∀x∈c.box.take k,x.body.length<=200)/\wr=W) (λi _=>r-(jD i).toNat)
 case atStart=>exact⟨0,N,jS _,O ao,N⟩
 obtain⟨k,rfl,hk,a,H⟩:=hrel;rw[H];clear H
 by_cases aa:k<r
 case pos=>
  have ad:=az ((k:jh)<(r:jh));have au:=az (k<r);obtain⟨x,v,K⟩:=dK (l:=c.box) (j:=k) (by rw[<-ZX];exact aa);obtain⟨us,M,P⟩:=YM.out;obtain⟨ba,Q,R⟩:=P.at (i:=k) (b:=x.body) (by rw[ob,v];rfl);obtain⟨g,o,E,S,z⟩:=oJ M (λ_ _=>rfl) v Q;rw[a2]at S;injection S with e1 e2 e3
  subst e1;subst e3;obtain⟨px,cx,rfl⟩:=R.form;have YX:=O K;obtain⟨m,B⟩:=J x.body.length;rw[<-B]at z;have d3:W.cell? ⟨g,o+k*4+3,ji⟩=jc (jl px m cx):=aC (z 3 _ N) t;have HM:=O B;clear z M P Q R v K e2 B
  by_cases U:200<m
  case pos=>
   have ax:=az ((200:jh)<(m:jh));have ay:=az (200<m);clear U
   go_wp2_with fail
   go_ret;exact⟨⟨jp,N,λh=>by cases h⟩,t⟩
  have ax:=aw ((200:jh)<(m:jh));have ay:=aw (200<m);have a1:jb (∀y∈c.box.take (k+1),y.body.length<=200):=O (λy V=>by
   rw[YX]at V
   rcases j0.1 V with h|h
   ·exact a y h
   obtain rfl:=ms.1 h;have:=HM.out
   omega)
  clear U a
  go_wp2_with fail
  exact⟨⟨k+1,by go_num,by omega,a1,by trivial⟩,by simp only[jD];omega⟩
 have ad:=aw ((k:jh)<(r:jh));have au:=aw (k<r);obtain rfl:r=k:=Y;have Yu:jb (∀x∈c.box,x.body.length<=200):=O (by have h:=a.out;rwa [ZX,j8]at h);clear a
 go_wp2_with fail
 go_loopw [4] (λi wr=>∃k:jq,i=jd je k/\k<=s/\jb (∀x∈c.wel.take k,x.body.length<=200)/\wr=W) (λi _=>s-(jD i).toNat)
 case atStart=>exact⟨0,N,jS _,O ao,N⟩
 obtain⟨k,rfl,hk,a,H⟩:=hrel;rw[H];clear H
 by_cases aa:k<s
 case pos=>
  have ad:=az ((k:jh)<(s:jh));have au:=az (k<s);obtain⟨x,v,K⟩:=dK (l:=c.wel) (j:=k) (by rw[<-YA];exact aa);obtain⟨us,M,P⟩:=WY.out;obtain⟨ba,Q,R⟩:=P.at (i:=k) (b:=x.body) (by rw[ob,v];rfl);obtain⟨g,o,E,S,z⟩:=oJ M (λ_ _=>rfl) v Q;rw[a3]at S;injection S with e1 e2 e3
  subst e1;subst e3;obtain⟨px,cx,rfl⟩:=R.form;have YX:=O K;obtain⟨m,B⟩:=J x.body.length;rw[<-B]at z;have d3:W.cell? ⟨g,o+k*3+2,ji⟩=jc (jl px m cx):=aC (z 2 _ N) t;have HM:=O B;clear z M P Q R v K e2 B
  by_cases U:200<m
  case pos=>
   have ax:=az ((200:jh)<(m:jh));have ay:=az (200<m);clear U
   go_wp2_with fail
   go_ret;exact⟨⟨jp,N,λh=>by cases h⟩,t⟩
  have ax:=aw ((200:jh)<(m:jh));have ay:=aw (200<m);have a1:jb (∀y∈c.wel.take (k+1),y.body.length<=200):=O (λy V=>by
   rw[YX]at V
   rcases j0.1 V with h|h
   ·exact a y h
   obtain rfl:=ms.1 h;have:=HM.out
   omega)
  clear U a
  go_wp2_with fail
  exact⟨⟨k+1,by go_num,by omega,a1,by trivial⟩,by simp only[jD];omega⟩
 have ad:=aw ((k:jh)<(s:jh));have au:=aw (k<s);obtain rfl:s=k:=Y;have v:jb (∀x∈c.wel,x.body.length<=200):=O (by have h:=a.out;rwa [YA,j8]at h);clear a
 by_cases m:u<=10
 case neg=>
  have i:jb (decide (u<=10)=jp):=O (decide_eq_false m);clear m
  go_wp2_with fail
  refine(sT C u D _).mono ?_;rintro e o ⟨rfl,a⟩;have g:=aj t a;clear a;rw[i]
  go_wp2_with fail
  go_ret;exact⟨⟨jp,N,λh=>by cases h⟩,g⟩
 have i:jb (decide (u<=10)=jg):=O (nv m);have x:=O m;clear m
 by_cases m:np<=12
 case neg=>
  have y:=aw ((np:jh)<=12);clear m
  go_wp2_with fail
  refine(sT C u D _).mono ?_;rintro e o ⟨rfl,a⟩;have g:=aj t a;rw[i];replace d:=aC d a;replace f:=aC f a;replace n:=aC n a;clear a
  go_wp2_with fail
  go_ret;exact⟨⟨jp,N,λh=>by cases h⟩,g⟩
 have y:=az ((np:jh)<=12);have z:=O m;clear m
 by_cases m:r<=40
 case neg=>
  have B:=aw ((r:jh)<=40);clear m
  go_wp2_with fail
  refine(sT C u D _).mono ?_;rintro e o ⟨rfl,a⟩;have g:=aj t a;rw[i];replace d:=aC d a;replace f:=aC f a;replace n:=aC n a;clear a
  go_wp2_with fail
  go_ret;exact⟨⟨jp,N,λh=>by cases h⟩,g⟩
 have B:=az ((r:jh)<=40);have H:=O m;clear m
 by_cases m:s<=10
 case neg=>
  have K:=aw ((s:jh)<=10);clear m
  go_wp2_with fail
  refine(sT C u D _).mono ?_;rintro e o ⟨rfl,a⟩;have g:=aj t a;rw[i];replace d:=aC d a;replace f:=aC f a;replace n:=aC n a;clear a
  go_wp2_with fail
  go_ret;exact⟨⟨jp,N,λh=>by cases h⟩,g⟩
 have K:=az ((s:jh)<=10);have M:=O m;clear m
 go_wp2_with fail
 refine(sT C u D _).mono ?_;rintro e o ⟨rfl,a⟩;have g:=aj t a;rw[i];replace d:=aC d a;replace f:=aC f a;replace n:=aC n a;clear a
 go_wp2_with fail
 go_ret;exact⟨⟨jg,N,λ_=>⟨Yu,v,by rw[<-a4];exact x,by rw[<-a5];exact z,by rw[<-ZX];exact H,by rw[<-YA];exact M⟩⟩,g⟩
theorem JS(g:Grp)(vm vt:jf)(w:jk)(h:bH w g vm vt)(l:g.tree.length<=jB):
 jr jn 5 #[ja (aD g vm vt).toArray] w λe w'=>(∃b,e=jt (.bool b)/\(b=jg->g.mem.length<=8/\g.tree.length<=80))/\jm w w w':=by
 have a:=dy.new w (vm:=vm) (vt:=vt) h.llen;have b:=ap w (jj (aD g vm vt).toArray 29);have d:=O (Qk g.tree vt _ (h.tree.below b) l);obtain⟨p,c,rfl,-,-⟩:=h.mem.form;obtain⟨m,o,q,rfl⟩:=gu h.tree;obtain⟨-,-,i,r⟩:=a.at;have f:=O b;obtain⟨v,j⟩:=J ((aD g (jl p g.mem.length c) (jl m o q)).toArray);rw[<-j]at i r d f⊢;obtain⟨n,k⟩:=J g.mem.length;rw[<-k]at i⊢;clear a b h j k
 by_cases b:n<=8
 case neg=>
  have j:=aw ((n:jh)<=8);clear b
  go_enter func5,ntmps5
  go_wp2_with fail
  go_ret;exact⟨⟨jp,N,λh=>by cases h⟩,f⟩
 have j:=az ((n:jh)<=8);have k:=O b;clear b;obtain⟨s,b⟩:=J (decide (g.tree.length<=80));rw[<-b]at d;have t:=O b;clear b
 go_enter func5,ntmps5
 go_wp2_with fail
 refine d.mono ?_;rintro e x ⟨rfl,b⟩;have u:=aj f b;clear b
 go_wp2_with fail
 go_ret;exact⟨⟨s,N,λa=>⟨k,of_decide_eq_true (by rw[<-t];exact a)⟩⟩,u⟩
theorem I9{l:jo aJ}{x:aJ}(h:cZ l f=ji)(a:(x.dev==f)=jp):cZ (l++[x]) f=ji:=by
 unfold cZ at*;rw[qa,h];simp[a]
theorem DN{l:jo aJ}{x:aJ}(h:cZ (l.take b) f=ji)(a:l.take (b+1)=l.take b++[x])(k:x.dev=f):cZ l f=jc x:=by
 have e:cZ (l.take (b+1)) f=jc x:=by unfold cZ at*;rw[a,qa,h];simp[k]
 unfold cZ at*;rw[<-List.take_append_drop (b+1) l,qa,e];rfl
theorem Dg(l:jo aJ)(d:jh):cD l d=(cZ l d).isSome:=by
 unfold cD cZ;rw[Bool.eq_iff_iff,List.find?_isSome,qo]
theorem Dw(a:Grp)(vm vt:jf)(d:jh)(w:jk)(h:bH w a vm vt)(q:a.mem.length<=jB):
 jr jn 12 #[ja (aD a vm vt).toArray,jd je d] w λe w'=>e=jt (.bool (cD a.mem d))/\jm w w w':=by
 have i:=dy.new w (vm:=vm) (vt:=vt) h.llen;have b:=ap w (jj (aD a vm vt).toArray 29);have k:=h.mem;obtain⟨p,c,rfl,-,-⟩:=h.mem.form;obtain⟨-,-,m,-⟩:=i.at;have v:=O (k.cells);obtain⟨E,o⟩:=J ((aD a (jl p a.mem.length c) vt).toArray);rw[<-o]at m b⊢;obtain⟨n,f⟩:=J a.mem.length;rw[<-f]at m q v;replace q:n<=9223372036854775807:=q;have x:=O f;obtain⟨r,g⟩:=J (w.alloc (jj E 29));rw[<-g]at m b;have t:=O g;have s:=O b;clear i b h o f k g
 go_enter func12,ntmps12
 go_upto_region 1 with fail
 rw[<-t];obtain⟨b,f⟩:=J w.heap.size;rw[<-f]at m⊢;clear t f
 go_wp2_with fail
 go_loopw [5] (λi wr=>∃k:jq,i=jd je k/\k<=n/\jb (cZ (a.mem.take k) d=ji)/\wr=r) (λi _=>n-(jD i).toNat)
 case atStart=>exact⟨0,N,jS _,O N,N⟩
 obtain⟨k,rfl,V,t,f⟩:=hrel;rw[f];clear f
 by_cases F:k<n
 ·have H:=az ((k:jh)<(n:jh))
  have K:=az (k<n);obtain⟨-,-,u⟩:=v.out;obtain⟨g,o,rfl,z⟩:=u Y;obtain⟨y,B,C⟩:=dK (l:=a.mem) (j:=k) (by rw[<-x];exact F);have f:=λi M P=>aC (z k y B i M P) s
  have Q:r.cell? ⟨g,o+k*3,ji⟩=jc (jd je y.dev):=f 0 _ N;have R:r.cell? ⟨g,o+k*3+1,ji⟩=jc (jd je y.since):=f 1 _ N;obtain⟨md,S,U⟩:=y;dsimp only at Q R;have D:=O C;clear z C B u f
  by_cases f:md=d
  case neg=>
   have u:(md==d)=jp:=ak f;have z:jb (cZ (a.mem.take (k+1)) d=ji):=O (by rw[D];exact I9 t u);have B:decide (md=d)=jp:=ak f;clear f
   go_wp2_with fail
   exact⟨⟨k+1,by go_num,by omega,z,by trivial⟩,by simp only[jD];omega⟩
  have u:jb (cZ a.mem d=jc ⟨md,S,U⟩):=O (DN t D f);subst f
  go_wp2_with fail
  go_ret;exact⟨by rw[Dg,u];rfl,s⟩
 have H:=aw ((k:jh)<(n:jh));have K:=aw (k<n);obtain rfl:k=n:=Y;have u:jb (cZ a.mem d=ji):=O (by
  have h:=t.out
  rwa [x,j8]at h)
 go_wp2_with fail
 go_ret;exact⟨by rw[Dg,u];rfl,s⟩
theorem G9(a:Grp)(vm vt:jf)(d:jh)(w:jk)(h:bH w a vm vt)(q:a.mem.length<=jB):
 jr jn 10 #[ja (aD a vm vt).toArray,jd je d] w λe w'=>e=jt (jd je (dW a d))/\jm w w w':=by
 have i:=dy.new w (vm:=vm) (vt:=vt) h.llen;have b:=ap w (jj (aD a vm vt).toArray 29);have k:=h.mem;obtain⟨p,c,rfl,-,-⟩:=h.mem.form;obtain⟨-,-,m,-⟩:=i.at;have v:=O (k.cells);obtain⟨E,o⟩:=J ((aD a (jl p a.mem.length c) vt).toArray);rw[<-o]at m b⊢;obtain⟨n,f⟩:=J a.mem.length;rw[<-f]at m q v;replace q:n<=9223372036854775807:=q;have x:=O f;obtain⟨r,g⟩:=J (w.alloc (jj E 29));rw[<-g]at m b;have t:=O g;have s:=O b;clear i b h o f k g
 go_enter func10,ntmps10
 go_upto_region 1 with fail
 rw[<-t];obtain⟨b,f⟩:=J w.heap.size;rw[<-f]at m⊢;clear t f
 go_wp2_with fail
 go_loopw [5] (λi wr=>∃k:jq,i=jd je k/\k<=n/\jb (cZ (a.mem.take k) d=ji)/\wr=r) (λi _=>n-(jD i).toNat)
 case atStart=>exact⟨0,N,jS _,O N,N⟩
 obtain⟨k,rfl,V,t,f⟩:=hrel;rw[f];clear f
 by_cases F:k<n
 ·have H:=az ((k:jh)<(n:jh))
  have K:=az (k<n);obtain⟨-,-,u⟩:=v.out;obtain⟨g,o,rfl,z⟩:=u Y;obtain⟨y,B,C⟩:=dK (l:=a.mem) (j:=k) (by rw[<-x];exact F);have f:=λi M P=>aC (z k y B i M P) s
  have Q:r.cell? ⟨g,o+k*3,ji⟩=jc (jd je y.dev):=f 0 _ N;have R:r.cell? ⟨g,o+k*3+1,ji⟩=jc (jd je y.since):=f 1 _ N;obtain⟨md,S,U⟩:=y;dsimp only at Q R;have D:=O C;clear z C B u f
  by_cases f:md=d
  case neg=>
   have u:(md==d)=jp:=ak f;have z:jb (cZ (a.mem.take (k+1)) d=ji):=O (by rw[D];exact I9 t u);have B:decide (md=d)=jp:=ak f;clear f
   go_wp2_with fail
   exact⟨⟨k+1,by go_num,by omega,z,by trivial⟩,by simp only[jD];omega⟩
  have u:jb (cZ a.mem d=jc ⟨md,S,U⟩):=O (DN t D f);subst f
  go_wp2_with fail
  go_ret;exact⟨by unfold dW;rw[u];rfl,s⟩
 have H:=aw ((k:jh)<(n:jh));have K:=aw (k<n);obtain rfl:k=n:=Y;have u:jb (cZ a.mem d=ji):=O (by
  have h:=t.out
  rwa [x,j8]at h)
 go_wp2_with fail
 go_ret;exact⟨by unfold dW;rw[u];rfl,s⟩
theorem GJ{α:Type}{l:jo α}{p:α->Bool}{x:α}(h:l.any p=jp)(a:p x=jp):(l++[x]).any p=jp:=by
 rw[List.any_append,h];simp[a]
theorem DC(a:Cmt)(q:CQ)(d:jh)(w:jk)(b:aT (·<w.heap.size) w a q)(m:a.chg.length<=jB):
 jr jn 7 #[ja (aF a q).toArray,jd je d] w λe w'=>e=jt (.bool (gS a d))/\jm w w w':=by
 have o:=dQ.new w (q:=q) b.plen b.clen;have g:=ap w (jj (aF a q).toArray 37);have h:=EK.At.of_sl (E:=EC) b.chg;obtain⟨p,c,r⟩:=b.chg.form;obtain⟨-,-,-,f,-⟩:=o.at;rw[r]at f h;have u:=O (h.cells);have s:gS a d=a.chg.any λx=>x.k==2&&x.d==d:=N
 rw[s];obtain⟨l,t⟩:=J a.chg;obtain⟨M,y⟩:=J ((aF a q).toArray);rw[<-y]at f g⊢;rw[<-t]at f m u⊢;obtain⟨n,i⟩:=J l.length;rw[<-i]at f m u;replace m:n<=9223372036854775807:=m;have D:=O i;obtain⟨v,k⟩:=J (w.alloc (jj M 37));rw[<-k]at f g;have B:=O k;have z:=O g;clear o g b y i h k r s t
 go_enter func7,ntmps7
 go_upto_region 1 with fail
 rw[<-B];obtain⟨b,g⟩:=J w.heap.size;rw[<-g]at f⊢;clear B g
 go_wp2_with fail
 go_loopw [5] (λi wr=>∃k:jq,i=jd je k/\k<=n/\jb ((l.take k).any (λx=>x.k==2&&x.d==d)=jp)/\wr=v) (λi _=>n-(jD i).toNat)
 case atStart=>exact⟨0,N,jS _,O N,N⟩
 obtain⟨k,rfl,X,B,g⟩:=hrel;rw[g];clear g
 by_cases P:k<n
 ·have Q:=az ((k:jh)<(n:jh))
  have R:=az (k<n);obtain⟨-,-,C⟩:=u.out;obtain⟨g,o,rfl,F⟩:=C Y;obtain⟨y,s,H⟩:=dK (l:=l) (j:=k) (by rw[<-D];exact P);have t:=λi S U=>aC (F k y s i S U) z
  have a:v.cell? ⟨g,o+k*5,ji⟩=jc (jd je y.k):=t 0 _ N;have V:v.cell? ⟨g,o+k*5+1,ji⟩=jc (jd je y.d):=t 1 _ N;obtain⟨r,h,xp,xv,xc⟩:=y;dsimp only at a V;have K:=O H;have W:=O s;clear F H s C t
  by_cases s:r=2
  case neg=>
   have t:(r==2)=jp:=ak s;have F:decide (r=2)=jp:=ak s;have C:jb ((l.take (k+1)).any (λx=>x.k==2&&x.d==d)=jp):=O (by rw[K];exact GJ B (by show(r==2&&_)=jp;rw[t];rfl));clear s
   go_wp2_with fail
   exact⟨⟨k+1,by go_num,by omega,C,by trivial⟩,by simp only[jD];omega⟩
  subst s
  by_cases t:h=d
  case neg=>
   have F:(h==d)=jp:=ak t;have C:jb ((l.take (k+1)).any (λx=>x.k==2&&x.d==d)=jp):=O (by rw[K];exact GJ B (by show(_ &&h==d)=jp;rw[F];rfl));have H:decide (h=d)=jp:=ak t;clear t
   go_wp2_with fail
   exact⟨⟨k+1,by go_num,by omega,C,by trivial⟩,by simp only[jD];omega⟩
  subst t;have C:jb (l.any (λx=>x.k==2&&x.d==h)=jg):=O (qo.2 ⟨_,mz W,by simp⟩)
  go_wp2_with fail
  go_ret;exact⟨by rw[C];rfl,z⟩
 have Q:=aw ((k:jh)<(n:jh));have R:=aw (k<n);obtain rfl:k=n:=Y;have C:jb (l.any (λx=>x.k==2&&x.d==d)=jp):=O (by
  have h:=B.out
  rwa [D,j8]at h)
 go_wp2_with fail
 go_ret;exact⟨by rw[C];rfl,z⟩
theorem Ue(s t:jo jh)(u v:jf)(w:jk)(E:dh w u s)(F:dh w v t)(H:s.length<=1000000)(K:t.length<=1000000):
 jr jn 20 #[u,v] w λe w'=>e=jt (.bool (decide (s=t)))/\jm w w w':=by
 obtain⟨p,c,rfl,M,d⟩:=E;obtain⟨V,W,rfl,P,f⟩:=F;have Q:=O d;have R:=O f;obtain⟨n,a⟩:=J s.length;obtain⟨m,b⟩:=J t.length;have j:=O a;have l:=O b;rw[<-a]at M H⊢;rw[<-b]at P K⊢;clear d f a b
 go_enter func20,ntmps20
 by_cases q:n=m
 case neg=>
  have a:((n:jh)==(m:jh))=jp:=by simp;omega
  have hd2:=aw ((n:jh)=(m:jh));have hd3:decide (n=m)=jp:=ak q;have d:jb (decide (s=t)=jp):=O (decide_eq_false (λh=>q (by rw[j,l,h])));clear q
  go_wp2_with fail
  go_ret;exact⟨by rw[d];rfl,jH _ _⟩
 subst q
 go_wp2_with fail
 go_loopw [5] (λi wr=>∃k:jq,i=jd je k/\k<=n/\jb (s.take k=t.take k)/\jb (jm w w wr)) (λi _=>n-(jD i).toNat)
 case atStart=>exact⟨0,N,jS _,O N,O (jH _ _)⟩
 obtain⟨k,rfl,X,r,f⟩:=hrel
 by_cases x:k<n
 ·have S:=az ((k:jh)<(n:jh))
  have U:=az (k<n);obtain⟨g,o,rfl,i⟩:=Q.out (by rw[<-j];omega);obtain⟨g2,o2,rfl,y⟩:=R.out (by rw[<-l];omega);obtain⟨a,aa,-,z⟩:=Jb i (by rw[<-j];exact x) f;obtain⟨b,ad,-,B⟩:=Jb y (by rw[<-l];exact x) f;have C:=O z;have D:=O B;clear i y z B
  by_cases i:a=b
  case neg=>
   have d:jb (decide (s=t)=jp):=O (decide_eq_false (zX r C D i));have y:(a==b)=jp:=ak i;have z:decide (a=b)=jp:=ak i;clear i
   go_upto_region 6 with fail
   go_quiet (fail)
   go_wp2_with fail
   go_ret;exact⟨by rw[d];rfl,f.trans ⟨rfl,rfl,rfl,jA _,λ_ _=>rfl⟩⟩
  subst i;have y:=O (G3 r C D N)
  go_upto_region 6 with fail
  go_quiet (fail)
  go_wp2_with fail
  exact⟨⟨k+1,by go_num,by omega,y,O (f.trans ⟨rfl,rfl,rfl,jA _,λ_ _=>rfl⟩)⟩,by simp only[jD];omega⟩
 have S:=aw ((k:jh)<(n:jh));have U:=aw (k<n);obtain rfl:k=n:=Y;have d:jb (decide (s=t)=jg):=O (nv (by
  have h:=r.out;rw[qb (by rw[<-j];exact jA _),qb (by rw[<-l];exact jA _)]at h;exact h))
 go_wp2_with fail
 go_ret;exact⟨by rw[d];rfl,f⟩

theorem Rj(w:jk)(o:Obj):jm w w (w.alloc o):=(jH _ w).alloc (jA _) o
def tk(w:jk)(b:jq)(t:jo (jh×jh)):Prop:=∃a,w.cell? ⟨b,0,ji⟩=jc a/\bJ w a t
theorem tk.below{w':jk}{t:jo (jh×jh)}(h:tk w b t)(a:jm w w w'):tk w' b t:=by
 obtain⟨d,c,e⟩:=h;exact⟨d,cJ c (a.block _ (eN c)),e.below a⟩
theorem tk.new{a:jf}{t:jo (jh×jh)}(h:bJ w a t):tk (w.alloc (jj #[a] 27)) w.heap.size t:=
 ⟨a,by unfold World.cell?;rw[jE];rfl,h.below (Rj w _)⟩
theorem Sq(t:jo (jh×jh))(a v:jf)(w:jk)(c:bJ w a t)(d:bJ w v t)(b:t.length<=1000000):
 jr jn 56 #[ja #[a],ja #[v]] w λe w'=>e=jt (.bool jg)/\jm w w w':=by
 have h:=Ly t t a v w c d b b;rw[nv N]at h;exact h
theorem R8(l:LBy)(a:l.length=32)(z:jk):(Op.equalIn 10000 23 (ja (l.map v8).toArray) (ja (l.map v8).toArray)).run jn z=.ok jg z:=by
 have h:=nZ l l a a z;rw[show decide (l=l)=jg from nv N]at h;exact h
theorem Tt(l:jo aJ)(a v:jf)(w:jk)(b:EM.At w a l)(d:EM.At w v l)(D:l.length<=1000000):
 jr jn 55 #[a,v] w λe w'=>e=jt (.bool jg)/\jm w w w':=by
 have g:=b;have h:=d;obtain⟨p,c,rfl,-,-⟩:=b.form;obtain⟨U,s,rfl,-,-⟩:=d.form;have t:=O (g.cells);have u:=O (h.cells);obtain⟨n,f⟩:=J l.length;have E:=O f;rw[<-f]at D t u⊢;clear b d g h f
 go_enter func55,ntmps55
 go_wp2_with fail
 go_loopw [5] (λi wr=>∃k:jq,i=jd je k/\k<=n/\jb (jm w w wr)) (λi _=>n-(jD i).toNat)
 case atStart=>exact⟨0,N,jS _,O (jH _ _)⟩
 obtain⟨k,rfl,V,b⟩:=hrel
 by_cases F:k<n
 ·have H:=az ((k:jh)<(n:jh))
  have K:=az (k<n);obtain⟨-,-,x⟩:=t.out;obtain⟨g,o,rfl,z⟩:=x Y;obtain⟨-,-,B⟩:=u.out;obtain⟨h,m,rfl,C⟩:=B Y;obtain⟨y,q,-⟩:=dK (l:=l) (j:=k) (by rw[<-E];exact F);have d:=λi a r=>aC (z k y q i a r) b
  have f:=λi a r=>aC (C k y q i a r) b
  have M:wr.cell? ⟨g,o+k*3,ji⟩=jc (jd je y.dev):=d 0 _ N;have P:wr.cell? ⟨g,o+k*3+1,ji⟩=jc (jd je y.since):=d 1 _ N;have s:wr.cell? ⟨g,o+k*3+2,ji⟩=jc (jd je y.ver):=d 2 _ N;have Q:wr.cell? ⟨h,m+k*3,ji⟩=jc (jd je y.dev):=f 0 _ N;have R:wr.cell? ⟨h,m+k*3+1,ji⟩=jc (jd je y.since):=f 1 _ N;have S:wr.cell? ⟨h,m+k*3+2,ji⟩=jc (jd je y.ver):=f 2 _ N;obtain⟨md,W,X⟩:=y;dsimp only at M P s Q R S;clear z C q x B d f
  go_upto_region 6 with fail
  go_quiet (fail)
  go_wp2_with fail
  exact⟨⟨k+1,by go_num,by omega,O (b.trans ⟨rfl,rfl,rfl,jA _,λ_ _=>rfl⟩)⟩,by simp only[jD];omega⟩
 have H:=aw ((k:jh)<(n:jh));have K:=aw (k<n)
 go_wp2_with fail
 go_ret;exact⟨N,b⟩
theorem QA(g:Grp)(d f vm vt:jf)(w:jk)(a:bH w g d f)(k:bH w g vm vt)(F:g.mem.length<=1000000)(H:g.tree.length<=1000000):
 jr jn 19 #[ja (aD g d f).toArray,ja (aD g vm vt).toArray] w λe w'=>e=jt (.bool jg)/\jm w w w':=by
 have c:=dy.new w (vm:=d) (vt:=f) a.llen;have j:=ap w (jj (aD g d f).toArray 29);obtain⟨l,h⟩:=J (w.alloc (jj (aD g d f).toArray 29));rw[<-h]at c j;have r:l.heap.size=w.heap.size+1:=by rw[h,j1]
 have i:=dy.new l (vm:=vm) (vt:=vt) a.llen;have m:=ap l (jj (aD g vm vt).toArray 29);obtain⟨s,n⟩:=J (l.alloc (jj (aD g vm vt).toArray 29));rw[<-n]at i m;replace c:=c.below m;have b:=O (j.trans (m.mono j.size));rw[r]at i;obtain⟨K,M,P,t⟩:=c.at;obtain⟨Q,R,S,u⟩:=i.at;have U:=O c.last;have V:=O i.last;have v:jb ((g.last.map v8).length=VD.n):=O (by rw[jM,a.llen];rfl);obtain⟨x,p⟩:=J ((g.last.map v8).toArray);have W:∀z,(Op.equalIn 10000 23 (ja x) (ja x)).run jn z=.ok jg z:=by
  rw[p];exact λz=>R8 g.last a.llen z
 have y:=O p;have o:=O a;have q:=O k;obtain⟨X,B⟩:=J ((aD g d f).toArray);obtain⟨D,C⟩:=J ((aD g vm vt).toArray);rw[<-B]at h⊢;rw[<-C]at n⊢;have E:jb (s=(w.alloc (jj X 29)).alloc (jj D 29)):=O (by rw[n,h]);clear a k c i j m B C h n r p;obtain⟨n,r,B,C,k2,rfl,rfl⟩:∃p c h n' i,d=jl p g.mem.length c/\f=jl h n' i:=by
  obtain⟨p,c,a,-⟩:=o.mem.form;obtain⟨h,n',i,k⟩:=gu o.tree;exact⟨p,c,h,n',i,a,k⟩
 obtain⟨p3,k3,p4,n4,k4,rfl,rfl⟩:∃p c h n' i,vm=jl p g.mem.length c/\vt=jl h n' i:=by
  obtain⟨p,c,a,-⟩:=q.mem.form;obtain⟨h,n',i,k⟩:=gu q.tree;exact⟨p,c,h,n',i,a,k⟩
 go_enter func19,ntmps19
 go_upto_region 1 with fail
 rw[<-E];clear E
 go_wp2_with (first|(refine VD.load ai N N (g.last.map v8) v U ?_;rw[<-y];refine G ?_)|(refine VD.load ai N N (g.last.map v8) v V ?_;rw[<-y];refine G ?_))
 refine(Tt g.mem _ _ s (o.mem.below b) (q.mem.below b) F).mono ?_;rintro e m ⟨rfl,j⟩;replace t:=aC t j;replace u:=aC u j;replace b:=aj b j;clear j K M P Q R S W
 go_wp2_with fail
 refine(Sq g.tree _ _ m (o.tree.below b) (q.tree.below b) H).mono ?_;rintro e E ⟨rfl,j⟩;replace b:=aj b j;clear j
 go_wp2_with fail
 go_ret;exact⟨N,b⟩
theorem Rs(a:jo CP)(v:jf)(w:jk)(d:cF w v a)(g:∀p∈a,p.1.box.length<=jB/\p.1.wel.length<=jB)(q:a.length<=jB):
 jr jn 6 #[v] w λe w'=>(∃b,e=jt (.bool b)/\(b=jg->a.length<=7/\∀p∈a,rq p.1))/\jm w w w':=by
 have z:=O d;have R:=O g;obtain⟨p,c,rfl⟩:=d.form;obtain⟨n,f⟩:=J a.length;have B:=O f;rw[<-f]at q z⊢;replace q:n<=9223372036854775807:=q;clear d g f
 by_cases D:n<=7
 case neg=>
  have E:=az ((7:jh)<(n:jh));have F:=az (7<n);clear D
  go_enter func6,ntmps6
  go_wp2_with fail
  go_ret;exact⟨⟨jp,N,λh=>by cases h⟩,jH _ _⟩
 have aa:=aw ((7:jh)<(n:jh));have ad:=aw (7<n)
 go_enter func6,ntmps6
 go_wp2_with fail
 go_loopw [3] (λi wr=>∃k:jq,i=jd je k/\k<=n/\jb (∀x∈a.take k,rq x.1)/\jb (jm w w wr)) (λi _=>n-(jD i).toNat)
 case atStart=>exact⟨0,N,jS _,O ao,O (jH _ _)⟩
 obtain⟨k,rfl,hk,H,d⟩:=hrel
 by_cases S:k<n
 ·have E:=az ((k:jh)<(n:jh))
  have F:=az (k<n);obtain⟨y,f,K⟩:=dK (l:=a) (j:=k) (by rw[<-B];exact S);have r:=mz f;have s:=z.below d;obtain⟨g,o,c',U,-,-,-,t⟩:=s.elem f;injection U with V W X
  subst V;subst X;have u:=O (s.all y r);have M:=O (R y r);obtain⟨i,m⟩:=y;dsimp only at t;have Vd:=O t;have Vx:jb ((aF i m).length=VC.n):=O (dl _ _ u.plen u.clen);have Vp:=O K;obtain⟨C,P⟩:=J ((aF i m).toArray);have Q:=O P;clear f K r s W t P
  go_wp2_with (first|(refine VC.load ai N N (aF i m) Vx Vd ?_;rw[<-Q];refine G ?_))
  have f:=Nj i m wr u M.1 M.2;rw[<-Q]at f;refine f.mono ?_;rintro e K ⟨⟨b,rfl,r⟩,s⟩;have t:=O r;replace d:=aj d s;clear s r f
  rcases b with _|_
  ·go_wp2_with fail
   go_ret;exact⟨⟨jp,N,λh=>by cases h⟩,d⟩
  go_wp2_with fail
  exact⟨⟨k+1,by go_num,by omega,O (by
   rw[Vp];intro x f
   rcases j0.1 f with f|f
   ·exact H x f
   rw[ms]at f;rw[f];first|exact t N|exact t trivial),d⟩,by simp only[jD];omega⟩
 have E:=aw ((k:jh)<(n:jh));have F:=aw (k<n);obtain rfl:k=n:=Y
 go_wp2_with fail
 go_ret;exact⟨⟨jg,N,λ_=>⟨D,by have h:=H.out;rwa [B,j8]at h⟩⟩,d⟩
abbrev GP:=Grp×jf×jf
def Sm(x:GP):jo jf:=aD x.1 x.2.1 x.2.2
structure oY(w:jk)(v:jf)(l:jo GP):Prop where
 row:aH (·<w.heap.size) w v 36 l.length (l.flatMap Sm)
 all:∀x∈l,bH w x.1 x.2.1 x.2.2
theorem oY.below{w':jk}{v:jf}{l:jo GP}(h:oY w v l)(a:jm w w w'):oY w' v l:=
 ⟨(h.row.keep λg b=>a.block g b).mono λg b=>jw b a.size,λp c=>(h.all p c).below a⟩
theorem oY.form{d:jf}{l:jo GP}(h:oY w d l):∃p c,d=jl p l.length c:=h.row.form
theorem oY.elem{d:jf}{l:jo GP}(h:oY w d l){i:jq}{x:GP}(a:l[i]?=jc x):
 ∃g o c,d=jl (jc ⟨g,o,ji⟩) l.length c/\g<w.heap.size/\l.length<=c/\i<l.length/\w.rangeAt g (o+i*36) (aD x.1 x.2.1 x.2.2):=h.row.rowM N (λx b=>eX (h.all x b).llen) a
section
variable{e:jF}{w:jk}{xs:jo jf}{sz:jq}
structure eK(e:jF)(sz:jq)(w:jk)(g:jq)(v:jf)(n:jq)(xs:jo jf):Prop where
 len:xs.length=n*sz
 ex:∃o a b,v=jl (jc ⟨g,o,ji⟩) n a/\w.heap[g]?=jc (jj b e (0,0))/\n<=a/\a<=jB/\o+a*sz<=b.size/\∀(j:jq) c,xs[j]?=jc c->b[o+j]?=jc c
theorem eK.of_own{B n:jq}{v:jf}(h:w.ownsRow B e sz v n xs)(l:0<n):∃g,v.ownBlock=jc g/\eK e sz w g v n xs:=by
 rcases h.2 with⟨-,m⟩|⟨g,b,c,rfl,o,d,f,i,p,k⟩
 ·omega
 refine⟨g,N,h.1,0,b,c,N,d,f,i,by omega,λj q a=>?_⟩;rw[<-k,qs]at a
 split at a
 ·rw[qc];simpa using a
 cases a
theorem eK.row{g n:jq}{v:jf}(h:eK e sz w g v n xs):cH w v sz n xs:=by
 obtain⟨a,o,b,l,rfl,c,d,m,p,f⟩:=h;exact⟨a,_,b,N,d,(λe=>by cases e),λ_=>⟨g,o,N,λj i k=>ah c (f j i k)⟩⟩
theorem eK.lt{B b d:jq}{f:jf}{a:jo jf}(h:eK e b w B f d a):B<w.heap.size:=by
 obtain⟨_,_,_,_,_,xs,_⟩:=h;exact(jP.1 xs).1
theorem eK.keep{w':jk}{g n:jq}{v:jf}(h:eK e sz w g v n xs)(a:w'.heap[g]?=w.heap[g]?):eK e sz w' g v n xs:=by
 obtain⟨b,o,c,d,rfl,f,i⟩:=h;exact⟨b,o,c,d,N,a.trans f,i⟩
theorem eK.cells{g n:jq}{v:jf}(h:eK e sz w g v n xs):∃c,w.heap[g]?=jc (jj c e (0,0)):=by
 obtain⟨_,_,_,a,_,b,_⟩:=h;exact⟨a,b⟩
section
variable {P:Program}
theorem eK.tail{g n:jq}{t:jF}{v:jf}{ys:jo jf}(h:eK e sz w g v (n+1) (ys++xs))(k:ys.length=sz)(b:P.underlying t=jc (.slice e))(s:∀w,(sizeOf e).run P w=.ok sz w):
 ∃l,eK e sz w g l n xs/\∀W,(Instr.sliceAt t v (jc (jd je 1)) ji ji).run P W=.ok l W:=by
 obtain⟨u,o,c,m,rfl,p,z,B,x,y⟩:=h;have he:P.elem t=e:=by simp[Program.elem,b]
 have d:xs.length=n*sz:=by rw[jT,k,oj]at u;omega
 have q:∀W,(Instr.sliceAt t (jl (jc ⟨g,o,ji⟩) (n+1) c) (jc (jd je 1)) ji ji).run P W=.ok (jl (jc (if c=1 then⟨g,o,ji⟩else⟨g,o+sz,ji⟩)) n (c-1)) W:=λW=>by
  rw[run_sliceAt_slice W t _ _ _ _ (by rw[he];exact b),run_slice_l W t _ (n+1) c (by rw[he];exact b) .i64 _ Y Y,he];simp[s,Result.andThen,sliced,Addr.add]
  by_cases h:c=1
  ·subst h;simp
  have a:c-1≠0:=Y;simp[h,a]
 by_cases f:c=1
 ·refine⟨_,⟨d,o,c-1,m,by rw[jz f],p,by omega,by omega,by subst f;omega,λj r i=>?_⟩,q⟩
  have a:=(jR.1 i).1;have:n=0:=Y;rw[d,this,Nat.zero_mul]at a;omega
 refine⟨_,⟨d,o+sz,c-1,m,by rw[if_neg f],p,by omega,by omega,?_,λj r i=>?_⟩,q⟩
 ·have a:c=(c-1)+1:=Y
  rw[a,oj]at x;omega
 have a:=y (sz+j) r (by rw[jW Y,k,Nat.add_sub_cancel_left];exact i);rw[Nat.add_assoc];exact a
theorem QW(w:jk)(t l e:jF)(i:TypeInfo)(n:P.underlying t=jc (.slice e))(p:P.info? e=jc i)
 (g o d k:jq) (f:ju jf) (q:w.heap[g]?=jc (jj f e (0,0)))
 (a:Addr) (m c:jq) (b:jo jf) (r:b.length=m*i.size) (s:∀j h,b[j]?=jc h->w.cell? (a.add j)=jc h) (j:∀h∈b,h.oneCell'=jg)
 (u:d+m<=k) (v:o+d*i.size+b.length<=f.size):
 (Builtin.append_ #[t,t] l #[jl (jc ⟨g,o,ji⟩) d k,jl (jc a) m c]).run P w=
  .ok (jl (jc ⟨g,o,ji⟩) (d+m) k) (w.setRow g (f.toList.take (o+d*i.size)++b++f.toList.drop (o+d*i.size+b.length)).toArray):=by
 have x:=run_firstCells_some (P:=P) w i.size m a m c b r s;have h:=run_storeCells_at P g (o+d*i.size) e b 0 f w q (ak v) j;simp only[Nat.add_zero]at h;simp[Builtin.append_,run_underlying n,sizeOf,typeInfo,p,Builtin.lenOf,u,x,Addr.add_lit,h]
theorem Lv(w:jk)(t x e:jF)(i:TypeInfo)(z:jf)(sz y:jq)(B:P.underlying t=jc (.slice e))(C:P.info? e=jc i)(V:i.zero=jc z)
 (Q:i.size=sz) (W:i.bytes=y) (X:z.cells.size=sz) (aa:0<sz) {g n:jq} {v:jf} {xs:jo jf} (h:eK e sz w g v n xs) {a:jf} {m:jq} {ys:jo jf} (hu:cH w a sz m ys) (h1:∀a∈ys,a.oneCell'=jg)
 (ad:n+m<=jB) (au:(n+m)*y<=140737488355328):
 ∃s w' g',(Builtin.append_ #[t,t] x #[v,a]).run P w=.ok s w'/\eK e sz w' g' s (n+m) (xs++ys)/\w.grownBy w' (jc g)/\(g'=g\/w.heap.size<=g'):=by
 obtain⟨D,o,d,q,rfl,f,R,S,ax,E⟩:=h;obtain⟨u,p,c,rfl,hc,hp,ay⟩:=hu
 rcases p with _|F
 ·obtain rfl:=hp N
  obtain rfl:m=0:=Y;obtain rfl:ys=[]:=List.eq_nil_of_length_eq_zero Y;refine⟨_,w,g,?_,⟨by rw[qt];exact D,o,d,q,N,f,R,S,ax,λj a b=>E j a (ak b)⟩,World.grownBy.refl _ _,.inl N⟩;simp[Builtin.append_,run_underlying B,sizeOf,typeInfo,C,Builtin.lenOf,Builtin.firstCells,R,storeCells]
 have U:∀(j:jq) a,ys[j]?=jc a->w.cell? (F.add j)=jc a:=by
  intro j a b;have l:=(jR.1 b).1;obtain⟨g,o,e,f⟩:=ay (by
   rcases Nat.eq_zero_or_pos m with k|k
   ·rw[u,k]at l;omega
   exact k)
  obtain rfl:=Option.some.inj e;rw[uV];exact f j a b
 have a1:(xs++ys).length=(n+m)*sz:=by rw[jT,D,u,oj]
 by_cases H:n+m<=d
 ·subst Q
  have a2:o+n*i.size+ys.length<=q.size:=by
   have r:(n+m)*i.size<=d*i.size:=Nat.mul_le_mul_right _ H;rw[oj]at r;omega
  have K:=QW w t x e i B C g o n d q f F m c ys u U h1 H a2;refine⟨_,_,g,K,⟨a1,o,d,_,N,jZ _ _ _ _ _ _ f,H,S,?_,λj a b=>?_⟩,⟨N,N,N,by rw[setRow_size];exact jA _,λk _ M=>jL _ _ _ _ λe=>M (by rw[e])⟩,.inl N⟩
  ·rw[jC,jT,jT,ow,List.length_drop,j9]
   omega
  rw[jX]
  by_cases a3:j<xs.length
  ·rw[qd,nn (by rw[ow,j9];omega),qs,jz Y,qu]
   exact E j a (by rwa [nn a3]at b)
  rw[jW Y]at b;have r:=(jR.1 b).1;have l:q.toList.length=q.size:=j9;rw[qd,jW (by rw[ow,j9];omega),ow,j9,nn Y];rw[<-b]
  congr 1
  omega
 obtain⟨s,w',K,r,l⟩:=run_append_arg_grows (P:=P) w t x e i z sz y B C V Q W X aa ⟨g,o,ji⟩ n d xs D (λj a b=>by rw[uV];exact ah f (E j a b)) F m c ys u U Y ad au;obtain⟨g',b,h4⟩:=eK.of_own r Y;exact⟨s,w',g',K,h4,⟨l.os,l.tape,l.output,l.size,λk M _=>l.block k M ao⟩,.inr (r.lt g' b).1⟩
theorem eC.wpList_appendQ(R:eC P){d:ju jO}{e:Exit->Act->jk->Prop}{f:jo jO}{o:jO}{a:Act}{w:jk}(j:o.guard=ji)(s x:j5)(k:o.op=.call {callee:=.builtin .append,args:=#[s,x],argTypes:=#[R.t,R.t]})
 {g n:jq} {v:jf} {xs:jo jf} (l:a.eval s=v) (h:eK R.e R.k w g v n xs) {b:jf} {m:jq} {ys:jo jf} (p:a.eval x=b) (q:cH w b R.k m ys) (r:∀b∈ys,b.oneCell'=jg) (t:n+m<=1000000)
 (u:∀c w' g',eK R.e R.k w' g' c (n+m) (xs++ys)->w.grownBy w' (jc g)->(g'=g\/w.heap.size<=g')->wpList P d e f (a.put o.dst c) w'):wpList P d e (o::f) a w:=by
 refine n0 j λK y=>?_
 obtain⟨c,w',g',z,i,B,C⟩:=Lv (P:=P) w R.t o.type R.e R.i R.z R.k R.b R.ht R.hi R.hz R.hs R.hb R.hzs R.h0 h q r (by unfold jB;omega) (by
  have:=R.hbb;have i:(n+m)*R.b<=1000000*8000:=Nat.mul_le_mul t this
  omega)
 unfold Oper.wp execOp;simp only[k,resolve,invoke,builtin,Sem.run_bind,Sem.run_pure,Result.andThen_ok,qe,jY,jI,l,p,z];exact y _ _ (u c w' g' i B C)
end
end
theorem Qy{i:LBy}{l:jo Cmt}{S:aR}(h:fC f i l=jc S):fc l (aM f) S:=by
 obtain⟨b,e,a⟩:=F5 h;exact⟨b,(ud b).par,λj g=>by rw[e];exact a j g⟩
noncomputable def pU(a:jh)(b:LBy)(l:jo Cmt):jo aR:=match fC a b l with|none=>[]|some c=>sO l c
def ixs(a:jo CK):jo jf:=a.map λk=>jy .i64 (k.ix:jq)
def gcs(a:jo CK):jo jf:=a.flatMap λk=>aD k.g k.vm k.vt
structure ASt(d:jo CP)(f:jh)(h:LBy)(c:jq)(w W:jk)(e:aR)(a:jo CK)(k:jq)(u1 u2:jf)(g:jq)(q:jf):Prop where
 seq:a.map CK.cand=eG (d.map (·.1)) e k
 own1:W.ownsRow c RI.e RI.k u1 k (ixs (a.take k))
 own2:W.ownsRow c RG.e RG.k u2 k (gcs (a.take k))
 que:eK RK.e RK.k W g q (a.length-k) ((a.drop k).flatMap aL)
 qlow:c<=g
 all:∀x∈a,KD (λb=>gb x b/\b<W.heap.size) d W x
 off:∀x∈a,∀b,gb x b->u1.ownBlock≠jc b/\u2.ownBlock≠jc b/\g≠b
 bel:jm c w W
 le:k<=a.length
theorem ASt.below{e:jo CP}{i:LBy}{d k g:jq}{W j:jk}{l:aR}{m:jo CK}{u1 u2 q:jf}(h:ASt e f i d w W l m k u1 u2 g q)(a:jm W W j)(n:d<=W.heap.size):ASt e f i d w j l m k u1 u2 g q:=
 ⟨h.seq,cP h.own1 a,cP h.own2 a,h.que.keep (a.block g h.que.lt),h.qlow,λx o=>((h.all x o).keep λb c=>a.block b c.2).mono λb c=>⟨c.1,jw c.2 a.size⟩,h.off,h.bel.trans (a.mono n),h.le⟩
theorem Pm(a:jo CK)(x:CK):ixs (a++[x])=ixs a++[jy .i64 (x.ix:jq)]:=by unfold ixs;rw[qv];rfl
theorem Qx(a:jo CK)(x:CK):gcs (a++[x])=gcs a++aD x.g x.vm x.vt:=by unfold gcs;rw[qw,List.flatMap_singleton]
theorem DY{a:jo CK}{x:CK}(h:a[b]?=jc x):a.take (b+1)=a.take b++[x]:=by
 rw[List.take_succ_eq_append_getElem (jR.1 h).1,(jR.1 h).2]
theorem Eo{a:jo CK}{x:CK}(h:a[b]?=jc x):a.drop b=x::a.drop (b+1):=by
 rw[List.drop_eq_getElem_cons (jR.1 h).1,(jR.1 h).2]
theorem ASt.step{u:jo CP}{Q:jh}{R:LBy}{v k g g':jq}{W p j r n:jk}{S:aR}{l Ks:jo CK}{x:CK}{u1 u2 q y B U y1 y2:jf}(h:ASt u Q R v w W S l k u1 u2 g q)(C:l[k]?=jc x)(a3:v<=W.heap.size)(o:jm W W p)
 (Yl:y1.cells.toList=[jd je (x.ix:jq)]) (au:y2.cells.toList=aD x.g x.vm x.vt) (d:zS RI RG v p j u1 u2 y B (k+1) (k+1) (ixs (l.take k)++y1.cells.toList) (gcs (l.take k)++y2.cells.toList))
 (s:jm j j r) (V:∀z∈Ks,KD (λb=>j.heap.size<=b/\b<r.heap.size) u r z) (hK:Ks.map CK.cand=eS x.g (u.map (·.1))) (m:r.grownBy n (jc g)) (t:g'=g\/r.heap.size<=g')
 (E:eK RK.e RK.k n g' U (l.length-(k+1)+Ks.length) ((l.drop (k+1)).flatMap aL++Ks.flatMap aL)):ASt u Q R v w n S (l++Ks) (k+1) y B g' U:=by
 have hk:=(jR.1 C).1;obtain⟨X,F⟩:=h.que.cells;have ax:=h.que.lt;have aa:=o.size;have ay:=s.size;have a1:p.heap[g]?=jc (jj X RK.e (0,0)):=av F o;have e1:u1.ownBlock≠jc g:=cQ h.own1 F L;have e2:u2.ownBlock≠jc g:=cQ h.own2 F L;have ad:j.heap[g]?=jc (jj X RK.e (0,0)):=(d.heap g (jw ax aa) e1 e2).trans a1;have a4:p.heap.size<=j.heap.size:=d.bel.size;have d1:y.ownBlock≠jc g:=cQ d.own1 ad L;have d2:B.ownBlock≠jc g:=cQ d.own2 ad L;have s4:∀b,b<j.heap.size->b≠g->n.heap[b]?=j.heap[b]?:=λb a H=>(m.block b (jw a ay) λe=>H (by injection e)).trans (s.block b a)
 have s0:∀b,b<W.heap.size->b≠g->u1.ownBlock≠jc b->u2.ownBlock≠jc b->n.heap[b]?=W.heap[b]?:=λb a H i h2=>(s4 b Y H).trans ((d.heap b (jw a aa) i h2).trans (o.block b a))
 have a2:W.heap.size<=n.heap.size:=by have:=m.size;omega
 have a5:∀b,y.ownBlock=jc b->b=g'->False:=λb a e=>by
  rcases t with rfl|D
  ·exact d1 (e▸a)
  have:=(d.own1.lt b a).2;omega
 have a6:∀b,B.ownBlock=jc b->b=g'->False:=λb a e=>by
  rcases t with rfl|D
  ·exact d2 (e▸a)
  have:=(d.own2.lt b a).2;omega
 refine⟨?_,?_,?_,?_,?_,?_,?_,?_,?_⟩
 ·rw[qv,h.seq,eG,rh (c:=x.cand) (by rw[<-h.seq,ob,C];rfl),hK];rfl
 ·rw[qx Y,DY C,Pm,<-Yl]
  exact iF d.own1 λb a=>s4 b (d.own1.lt b a).2 λe=>d1 (e▸a)
 ·rw[qx Y,DY C,Qx,<-au]
  exact iF d.own2 λb a=>s4 b (d.own2.lt b a).2 λe=>d2 (e▸a)
 ·rw[List.drop_append_of_le_length Y,qw,jT,show l.length+Ks.length-(k+1)=l.length-(k+1)+Ks.length by omega]
  exact E
 ·rcases t with rfl|D
  ·exact h.qlow
  omega
 ·intro z f
  rcases j0.1 f with f|f
  ·refine((h.all z f).keep λb a=>?_).mono λb a=>⟨a.1,by omega⟩
   obtain⟨K,M,P⟩:=h.off z f b a.1;exact s0 b a.2 (Ne.symm P) K M
  have i:=(V z f).keep λb a=>m.block b a.2 λe=>by injection e with e;omega
  refine(KD.own i).mono λb a=>⟨a.1,by have:=m.size;have:=a.2;omega⟩
 ·intro z f b a
  rcases j0.1 f with f|f
  ·obtain⟨K,M,P⟩:=h.off z f b a
   have ba:=(rK (h.all z f) a).2;refine⟨λe=>?_,λe=>?_,λe=>?_⟩
   ·rcases d.lie1 with i|i
    ·exact K (i▸e)
    have:=i b e;omega
   ·rcases d.lie2 with i|i
    ·exact M (i▸e)
    have:=i b e;omega
   rcases t with rfl|D
   ·exact P e
   omega
  have i:=rK (V z f) a;refine⟨λe=>?_,λe=>?_,λe=>?_⟩
  ·have:=(d.own1.lt b e).2;omega
  ·have:=(d.own2.lt b e).2;omega
  have:=(jP.1 (h.que.cells).choose_spec).1
  rcases t with rfl|D
  ·omega
  subst e;obtain⟨-,-,-,-,-,h2,-⟩:=E;omega
 ·have f:jm 0 p j:=d.bel
  refine h.bel.trans ⟨m.os.trans (s.os.trans (f.os.trans o.os)),m.tape.trans (s.tape.trans (f.tape.trans o.tape)),m.output.trans (s.output.trans (f.output.trans o.output)),a2,λb a=>?_⟩;have E:=h.qlow;exact s0 b Y Y (λe=>by have:=(h.own1.lt b e).1;omega) (λe=>by have:=(h.own2.lt b e).1;omega)
 rw[jT];omega
theorem Ck{D:jq->Prop}(e:jF)(sz:jq):aH D w (jl ji 0 0) sz 0 []:=aH.of_own (qf w 0 e sz) λg a=>by simp[qg]at a
def Mk:jf->jq
 | .slice _ n _=>n
 |_=>0
theorem Ko(d:jo CP)(v:jf)(aa:jh)(U:LBy)(h:U.length=32)(w:jk)(a:cF w v d)(l:∀p∈d,cT (aP p.1))(m:bS w)(o:d.length<=1000):
 jr jn 17 #[ja (dz aa U).toArray,v] w λe w'=>∃(u1 u2:jf) (Ks:jo CK),e=jt (jv #[u1,u2])/\Ks.map CK.cand=pU aa U (d.map (·.1))/\aH (λb=>w.heap.size<=b/\b<w'.heap.size) w' u1 1 Ks.length (ixs Ks)/\
  aH (λb=>w.heap.size<=b/\b<w'.heap.size) w' u2 36 Ks.length (gcs Ks)/\(∀k∈Ks,KD (λb=>b<w'.heap.size) d w' k)/\jm w w w':=by
 obtain⟨p1,k1,rfl⟩:=a.form;obtain⟨FA,f⟩:=J ((dz aa U).toArray);have bf:jb (FA.size=VF.n):=O (by rw[f,jC];unfold dz;rw[qy,jM,h];rfl);rw[<-f];obtain⟨x0,M,q,r,j,g⟩:=cX w FA VF.t;have s:=O (pX d _ x0 (a.below g) l (m.below g) o);have t:=O q;have HM:=O r;have c:=O g;have HL:=O a;have HE:=O l;have HT:=O m;have HN:=O o;have bg:=O f;have bh:=O h;clear q r g a l m o f h
 go_enter func17,ntmps17
 go_wp2_with fail
 rw[<-HM];change jr _ _ _ (w.alloc (jj FA VF.t)) _;rw[<-t];refine s.mono ?_;rintro e x1 ⟨v2,v3,rfl,g,r⟩;have m:=O g;replace j:=ae j r;replace c:=aj c r;obtain⟨F,f⟩:=J (#[Value.slice p1 d.length k1,v2,v3]);have a2:jb (F.size=VP.n):=O (by rw[f];rfl);have Yu:jb (F.all (·.oneCell')=jg):=O (by
  obtain⟨a,b,h⟩:=g.ids.form;obtain⟨a',o,l⟩:=g.at_.form;rw[f,h,l];simp[qz])
 have a5:=O f;rw[<-f];clear g r s t f
 go_upto_region 2 with(first|(refine VP.made N N (G ?_))|(refine VP.first N N N F N a2 Yu (G ?_)))
 obtain⟨x2,H,s,a,f,r⟩:=cX x1 F VP.t;rw[<-s,<-a];replace j:=ae j r;replace c:=aj c r;have YD:jb (∀W,jm x2 x2 W->iw (·<W.heap.size) W (jl p1 d.length k1) v2 v3 d):=O λW hW=>by
  have l:=r.trans (hW.mono r.size);exact((m.mono λg o=>o.2).below l)
 have a6:jb (∀W,jm x2 x2 W->bS W):=O λW hW=>HT.below (c.trans (hW.mono c.size))
 have l:=FE d (jl p1 d.length k1) v2 v3 aa U bh x2 (YD _ (jH _ _)) HE (a6 _ (jH _ _)) HN;rw[<-bg,<-a5]at l;replace l:=O l;have bi:jb (H<x2.heap.size):=O (jP.1 f).1;clear s a r m
 go_wp2_with (first|(refine VP.loadA ai N N F a2 f (G ?_))|(refine VF.loadA ai N N FA bf j (G ?_)))
 refine l.mono ?_;rintro e x3 ⟨C,o,rfl,q,t,x,y,K⟩;have Yq:=O q;have bk:=O t;have m:=O x;have u:=O y;have S:=O K;replace f:=ae f K;clear q t x y K l j
 go_upto_region 3 with(first|(refine VK.made N N (G ?_))|(refine VK.first N N N C N Yq bk (G ?_)))
 obtain⟨q,bl,s,a,R,j⟩:=cX x3 C VK.t;rw[<-s,<-a];replace f:=ae f j;have t:jb (jm x2 x2 q):=aj S j;have x:jb (jm w w q):=O (c.trans (t.mono c.size));have bT:jb (bl<q.heap.size):=O (jP.1 R).1
 rcases o with _|_
 ·have l:=O (u N)
  clear s a j m u
  go_wp2_with fail
  go_ret2;refine⟨_,_,[],N,by unfold pU;rw[l];rfl,Ck 0 _,Ck 0 _,(λk hk=>by cases hk),x⟩
 obtain⟨D,y,z,l⟩:=m N;have B:jb (KD (λb=>x2.heap.size<=b/\b<q.heap.size) d q D):=O ((z.keep λb a=>j.block b a.2).mono λb a=>⟨a.1,jw a.2 j.size⟩);have bm:=O y;have Yo:=O l;have VS:=O (Qy l);clear s a j m u y z l
 go_upto_block 0 with(first|(refine VK.loadA ai N N C Yq R (G ?_))|(refine n0 N λ_ Q=>RK.wp_build (.tmp 21) N (ja C) N Yq (Q _ _ ?_);clear Q;refine G ?_))
 rw[show(j3 C).cells=C from N];obtain⟨V,g0,s,a,X,m⟩:=cX q C RK.e;rw[<-s,<-a];obtain⟨l,au⟩:∃l:jo Cmt,l=d.map (·.1):=⟨_,N⟩;have VA:=O au;have ax:jb (KIn q D):=O ((YD _ t.out).list|>B.kin);have ay:jb (C.toList=aL D):=O (by rw[bm]);have Wb:jb (ASt d aa U q.heap.size V V D.cand [D] 0 (jl ji 0 0) (jl ji 0 0) g0 (jl (jc ⟨g0,0,ji⟩) 1 1)):=O (by
  refine⟨N,qf _ _ _ _,qf _ _ _ _,⟨?_,0,1,C,N,X,jA _,by unfold jB;omega,by rw[Yq];exact jA _,λj u hj=>?_⟩,qh a.symm,λz y=>?_,λz y b ad=>?_,jH _ _,jS _⟩
  ·show(aL D++[]).length=1*143
   rw[qt,ax.len]
  ·rw[qc,<-qu,ay]
   simpa using hj
  ·rw[ms]at y;subst y
   exact(KD.own (B.keep λb a=>m.block b a.2)).mono λb a=>⟨a.1,jw a.2.2 m.size⟩
  rw[ms]at y;subst y;have h1:=rK B ad;exact⟨by simp[qg],by simp[qg],by omega⟩)
 have UH:jb (jm x2 x2 V):=aj t m;have ba:jb (jm w w V):=aj x m;have ad:jb (V.heap.size=q.heap.size+1/\w.heap.size<=q.heap.size/\x2.heap.size<=q.heap.size):=O ⟨by rw[s];exact j1 _ _,x.size,t.size⟩;have bn:jb (V.heap[H]?=jc (jj F VP.t (0,0))):=ae f m;clear s a m au X f R ax ay t x B S c
 go_wp2_with fail
 go_loopw [4,5,9] (λf t x wr=>∃(j:jo CK) (k g o c m:jq) (q1 q2:Option Addr) (d1 d2:jq),f=jl q1 k d1/\t=jl q2 k d2/\x=jl (jc ⟨g,o,ji⟩) m c/\jb (m=j.length-k)/\jb (ASt d aa U q.heap.size V wr D.cand j k f t g x)) (λf _ _ _=>d.length-Mk f)
 case atStart=>exact⟨[D],0,g0,0,1,1,ji,ji,0,0,N,N,N,O N,Wb⟩
 obtain⟨j,k,g,o,c,m,q1,q2,d1,d2,rfl,rfl,rfl,au,f⟩:=hrel;clear Wb;have Ye:jb (j.length<=d.length):=O (by
  have h:=(BJ VS k).len VS;rw[<-f.seq,jM,jM]at h;exact h)
 by_cases a3:0<m
 case neg=>
  have hd:=aw (0<(m:jh));have UN:=aw (0<m);have Yz:jb (j.length=k):=O (by have:=au.out;have:=f.le;omega)
  go_wp2_with fail
  go_ret2;have t:w.heap.size<=q.heap.size:=ad.2.1;have x:j.take k=j:=qb (qh Yz);refine⟨_,_,j,N,?_,?_,?_,λz y=>(f.all z y).mono λb a=>a.2,ba.trans (f.bel.mono t)⟩
  ·unfold pU
   rw[Yo];have h:=f.seq;have h2:(eG (d.map (·.1)) D.cand k).length<=k:=by rw[<-h,jM,Yz];exact jA _
   rw[h];exact(Nm VS h2 (by rw[jM,<-Yz];exact Ye)).symm
  ·have h:=f.own1
   rw[x]at h;rw[Yz];exact aH.of_own h λb a=>⟨jJ t (h.lt b a).1,(h.lt b a).2⟩
  have h:=f.own2;rw[x]at h;rw[Yz];exact aH.of_own h λb a=>⟨jJ t (h.lt b a).1,(h.lt b a).2⟩
 have hd:=az (0<(m:jh));have UN:=az (0<m);obtain⟨x,ax⟩:∃x,j[k]?=jc x:=⟨_,List.getElem?_eq_getElem (aI au)⟩;have Vm:=mz ax;have ay:jb (cF wr (jl p1 d.length k1) d):=O (HL.below (ba.trans (f.bel.mono ad.2.1)));have B:=(f.all x Vm).kin ay;have a4:jb ((aL x).length=VK.n):=O B.len;have Vd:jb (wr.rangeAt g o (aL x)):=O λt u ht=>by
  obtain⟨-,p,c',S,-,-,h3⟩:=f.que.row;injection S with S e2 e3
  obtain⟨g',o',R,h4⟩:=h3 (aI au);rw[<-S]at R;injection R with R
  injection R with R X
  rw[R,X];exact h4 t u (by rw[Eo ax,o1,nn (jR.1 ht).1];exact ht)
 obtain⟨X,p⟩:=J ((aL x).toArray);have HX:=O p;have bo:jb (X.size=VK.n):=O (by rw[p,jC];exact a4);have U5:jb (X.all (·.oneCell')=jg):=O (by rw[p,j4];exact λu S=>B.ones u (ak S));have bp:jb (X[0]?=jc (jd je (x.ix:jq))):=O (by rw[p];simpa using(mO B).1);have Wm:jb (∀z:jk,∀b,z.heap[b]?=jc (jj X VK.t (0,0))->z.rangeAt b 107 (aD x.g x.vm x.vt)):=O λz b y t u ht=>ah y (by
  rw[p,jX];have h:=nI B (1+t);rw[<-Nat.add_assoc,Nat.add_comm 1 t,List.getElem?_cons_succ]at h;exact h.trans ht)
 have WB:jb ((aD x.g x.vm x.vt).length=VG.n):=O (eX B.leads.llen);have Vy:jb (∀u∈aD x.g x.vm x.vt,u.oneCell'=jg):=O (mc B.leads);have bb:jb (x.g.mem.length<=900000/\x.g.tree.length<=600000):=O (by
  have hi:=BJ VS k;obtain⟨gx,R,-⟩:=hi.at VS (i:=k) (c:=x.cand) (by rw[<-f.seq,ob,ax];rfl);have h:=nN (gY (ud R.ok));rw[<-R.ok.leads]at h;have h1:x.g.mem.length<=512:=h.1;have h2:x.g.tree.length<=1023:=h.2;exact⟨by omega,by omega⟩)
 obtain⟨GA,R⟩:=J ((aD x.g x.vm x.vt).toArray);have Vb:=O R;have Yr:=O ax;clear p R ax B Vm ay
 go_upto_region 9 with(first|(refine VK.load ai N N (aL x) a4 Vd ?_;rw[<-HX];refine G ?_)|(refine VK.made N N (G ?_))|(refine VK.first N N N X N bo U5 (G ?_)))
 obtain⟨y1,bx,s,a,bc,r⟩:=cX wr X VK.t;rw[<-s,<-a];have ax:=bX y1;obtain⟨y2,ay⟩:=J y1.drew;rw[<-ay]at ax;have R:jm wr wr y2:=r.trans (ax.mono r.size);have p:=O R;have B:=av bc ax;have R1:=cP f.own1 R;have R2:=cP f.own2 R;have a1:jb (q.heap.size<=wr.heap.size):=O (by have:=f.bel.size;have:=ad.1;omega);have bq:q.heap.size<=y2.heap.size:=jJ a1 R.size;have bd:jb (k<=1000000):=O (by have:=f.le;have:=Ye.out;have:=HN.out;omega);refine j6 ?_;refine fN (λW'=>W'.heap[bx]?=jc (jj X VK.t (0,0))) 10 (.t 0 (.t 1 (.t 2 (.t 5 (.t 6 (.t 7 (rY id (.o 10 (.o 11 .done))))))))) af af af af L (λ_ _ _ _ h=>h) (by rw[<-ay];exact B) ?_;rw[<-ay];clear s a r ax ay R;iterate 2 refine cr ?_
 (refine cL (v:=?_) N ai (λW' r=>?_) ?_;rotate_left;(have s:=ah (i:=0) r bp;clear r;go_simp;with_reducible rfl);refine G ?_)
 iterate 2 refine cr ?_
 (refine cL (v:=ja GA) N ai (λW' r=>by rw[Vb];exact gm _ _ VG.t _ N _ _ N _ VG.d (Wm W' _ r) VG.hu VG.hd (by rw[WB];exact VG.hi)) ?_;refine G ?_)
 refine Ae RI RG (T0:=id) (E:=id) (r1:=34) (r2:=35) (rb:=39) (r3:=40) (s1:=33) (s2:=38) (t1:=31) (t2:=36) af (λ_ _ _ _ h=>h) af af
  rfl rfl rfl rfl rfl rfl rfl rfl rfl rfl rfl rfl rfl rfl rfl rfl (show 34<49 by decide) (show 39<49 by decide) L L L L L L
  (λa' v=>rfl) (λa'=>rfl) (λa'=>rfl) (λa'=>rfl) (λa' w' R h r=>r)
  (x1:=jd je (x.ix:jq)) (x2:=ja GA) (u1:=jl q1 k d1) (u2:=jl q2 k d2) rfl rfl rfl rfl rfl (by rw[Vb];exact WB) (by simp[mb,qz]) (λu S=>Vy u (by rw[Vb]at S;simpa [mb]using S)) R1 R2 (AQ R1 R2 L) bd bd bq ?_ ?_
 ·intro w' hk r
  exact(hk _ (jP.1 B).1 (cQ R1 B L) (cQ R2 B L)).trans B
 rintro z1 z2 b0 b1 s R;obtain⟨br,bs,rfl⟩:=cO R.own1;obtain⟨bu,bv,rfl⟩:=cO R.own2;have bw:jb (s.heap[bx]?=jc (jj X VK.t (0,0))):=O ((R.heap _ (jP.1 B).1 (cQ R1 B L) (cQ R2 B L)).trans B);have r:=O R;clear R B R1 R2 bc;refine G ?_;refine nH N L af (λB Q=>?_);go_simp;refine Q _ _ ?_;clear Q;refine G ?_;refine nH N L af (λB Q=>?_);go_simp;refine Q _ _ ?_;clear Q;refine G ?_;refine fa ?_;have Vn:jb (jm x2 x2 s):=O (by
  have B:=r.bel;refine UH.trans ((f.bel.mono ad.2.2).trans ⟨B.os.trans p.os,B.tape.trans p.tape,B.output.trans p.output,jJ p.size B.size,λb a=>?_⟩);have h1:=ad.2.2;have h2:=a1.out;have h3:=p.size;exact(r.heap b Y (λe=>by have:=(f.own1.lt b e).1;omega) (λe=>by have:=(f.own2.lt b e).1;omega)).trans (p.block b Y))
 have bc:jb (s.heap[H]?=jc (jj F VP.t (0,0))):=O (by
  have h1:=ad.2.2;have h2:=a1.out;have h3:=p.size;have h4:=bi.out;exact(r.heap H Y (λe=>by have:=(f.own1.lt H e).1;omega) (λe=>by have:=(f.own2.lt H e).1;omega)).trans ((p.block H Y).trans ((f.bel.block H Y).trans bn)))
 have bA:=O (Wm s bx bw);have bB:jb (bH s x.g x.vm x.vt):=O (by
  have h:=f.all x (mz Yr);refine(h.keep λb a=>?_).grp.grp;obtain⟨B,Q,-⟩:=f.off x (mz Yr) b a.1;exact(r.heap b (jw a.2 p.size) B Q).trans (p.block b a.2))
 have Q:=EZ d (jl p1 d.length k1) v2 v3 x.g x.vm x.vt s (YD _ Vn.out) bB HE (a6 _ Vn.out) HN bb.1 bb.2;rw[<-Vb,<-a5]at Q;replace Q:=O Q
 go_wp2_with (first|(refine VP.loadA ai N N F a2 bc (G ?_))|(refine VG.load ai N N (aD x.g x.vm x.vt) WB bA ?_;rw[<-Vb];refine G ?_))
 refine Q.mono ?_;rintro e A3 ⟨vq,Ks,rfl,R,ax,K⟩;have Yz:=O R;have bC:=O ax;have bI:=O K;have bK:jb (eK RK.e RK.k A3 g (jl (jc ⟨g,o,ji⟩) m c) (j.length-k) ((j.drop k).flatMap aL)):=O (by
  have B:=f.que;obtain⟨cg,ay⟩:=B.cells;have a3:=B.lt;refine B.keep ((K.block g ?_).trans ((r.heap g (jw a3 p.size) (cQ f.own1 ay L) (cQ f.own2 ay L)).trans (p.block g a3)));have:=r.bel.size;have:=p.size;omega)
 have bM:jb (cH A3 vq 143 Ks.length (Ks.flatMap aL)):=O R.row.row;have Ym:jb (∀u∈Ks.flatMap aL,u.oneCell'=jg):=O (by
  intro u S;obtain⟨z,y,S⟩:=List.mem_flatMap.1 S;exact((R.all z y).kin (((YD _ Vn.out).list).below K)).ones u S)
 have Ze:jb (j.length-k+Ks.length<=1000000):=O (by
  have h1:=jU qi ax;have h2:(eS x.g (d.map (·.1))).length<=(bV (d.map (·.1)) (d.map (·.1)).length).length:=by
   unfold eS;rw[List.length_mergeSort];exact List.length_filterMap_le _ _
  have h3:=rZ (d.map (·.1)) (d.map (·.1)).length;rw[jM]at h1 h2 h3;have:=HN.out;have:=Ye.out
  omega)
 clear R ax K Q
 go_upto_region 7 with(first|(refine RK.wpList_appendQ N (.tmp 41) (.tmp 45) N N bK N bM Ym Ze ?_;intro v' A4 g' B K Q;refine G ?_))
 obtain⟨Zi,R,S⟩:=eK.tail (P:=jn) (t:=126) (sz:=143) (n:=j.length-(k+1)+Ks.length) (ys:=aL x) (xs:=(j.drop (k+1)).flatMap aL++Ks.flatMap aL) (by
  have h:=B;rw[Eo Yr,o1,qd,show j.length-k+Ks.length=j.length-(k+1)+Ks.length+1 by have:=au.out;omega]at h;exact h) a4 RK.ht RK.size
 have h:=O (f.step (y1:=jd je (x.ix:jq)) (y2:=ja GA) Yr a1 p N (by rw[Vb];rfl) r bI Yz.all bC K Q R);obtain⟨-,o',c',-,ax,-⟩:=B;obtain⟨-,bN,bO,-,ay,-⟩:=R;rw[ax]at S⊢;rw[ay]at S h;clear K Q ax ay
 go_wp2_with fail
 refine⟨⟨j++Ks,k+1,g',bN,bO,_,br,bu,bs,bv,N,N,N,O ?_,h⟩,?_⟩
 ·rw[jT];have:=au.out;omega
 have:=au.out;have:=Ye.out;show d.length-(k+1)<d.length-k;omega
theorem AS(q:jo CP)(v:jf)(g:Grp)(vm vt:jf)(w:jk)(b:cF w v q)(h:bH w g vm vt)(k:∀p∈q,cT (aP p.1))(l:bS w)(m:q.length<=1000)(o:g.mem.length<=900000)(r:g.tree.length<=600000)(s:∀p∈q,p.1.chg.length<=1000000):
 jr jn 11 #[ja (aD g vm vt).toArray,v] w λe w'=>e=jt (jv #[jd je ((et g (q.map (·.1))).elim 0 λc=>(c.ix:jh)),.bool (et g (q.map (·.1))).isSome])/\jm w w w':=by
 obtain⟨p1,k1,rfl⟩:=b.form;obtain⟨y,a⟩:=J ((aD g vm vt).toArray);have V8:=O a;have aa:jb (y.size=VG.n):=O (by rw[a,jC,eX h.llen];rfl);rw[<-a];obtain⟨M,j⟩:=J w.heap.size;obtain⟨x0,n⟩:=J (w.alloc (jj y 29));have f:jb (x0.heap[M]?=jc (jj y VG.t (0,0))):=O (by rw[n,j];exact jE _ _);have d:jb (jm w w x0):=O (by rw[n];exact ap _ _);have K:=O b;have HG:=O h;have P:=O k;have Q:=O l;have R:=O m;have WB:=O o;have Ww:=O r;have VT:=O s;have HM:=O j;have p:=O n;clear a j n b h k l m o r s
 go_enter func11,ntmps11
 go_upto_region 1 with fail
 rw[<-p,<-HM];clear p;refine j6 ?_;refine fN (λb=>b.heap[M]?=jc (jj y VG.t (0,0))) 10
  (.t 0 (.t 2 (.w 1 7 (.w 3 7 (.t 4 (.t 5 (.t 6 (.o 7 (.o 8 (.t 9 .done)))))) (.o 3 (.t 4 (.t 5 (.t 6 (.o 8 (.t 9 .done))))))) (.o 1 (.o 3 (.t 4 (.t 5 (.t 6 (.o 8 (.t 9 .done)))))))))) af af af af L (λ_ _ _ _ h=>h) f ?_
 have a:=bX x0;obtain⟨x1,r⟩:=J x0.drew;rw[<-r]at a⊢;replace d:=aj d a;replace f:=ae f a;clear r a;refine cr ?_
 (refine cL (v:=ja y) N ai (λb j=>cM VG.hu VG.hd (by rw[aa];exact VG.hi) N N j) ?_;refine G ?_)
 refine Bi ?_ ?_
 ·refine cY N (λx j=>?_)
  go_simp;refine(pX q _ x1 (K.below d) P (Q.below d) R).mono ?_;rintro e x2 ⟨v2,v3,rfl,S,a⟩;have F:=O (S.mono (E:=(·<x2.heap.size)) λb o=>o.2);replace d:=aj d a;replace f:=ae f a;refine j _ _ f.out λ_=>?_
  clear j S a;refine G ?_;refine Bi ?_ ?_
  ·refine cY N (λx j=>?_)
   go_simp;have n:=uj q _ v2 v3 g vm vt x2 F (HG.below d) P (Q.below d) R WB Ww VT;rw[<-V8]at n;refine n.mono ?_;rintro e H ⟨wk,rfl,z,s,a⟩;replace d:=aj d a;replace f:=ae f a;have t:=O (sM (wk:=wk) λk U=>(z k U).kin (K.below d));have V:=O s;have W:jb ((dm wk)[0]?=jc (jd je ((et g (q.map (·.1))).elim 0 λc=>(c.ix:jh)))):=O (by rw[<-s];cases wk<;>rfl);refine j _ _ f.out λ_=>?_
   clear j n z s a;refine G ?_;iterate 3 refine cr ?_
   refine cY N (λx j=>?_);rw[jz ai];refine gM VK.t N VK.Z VK.hal ?_;have B:=O d.size;obtain⟨p,l,r,o,m,a⟩:=cX H VK.Z VK.t;rw[<-r,<-o];replace d:=aj d a;replace f:=ae f a;have X:jb (w.heap.size<=l):=O (by rw[o];exact B);refine j _ _ f.out λ_=>?_
   clear j r o a B;refine G ?_;refine cY N (λx j=>?_);rw[jz ai];refine jV VK.t _ _ N l (dm wk) N N VK.t VK.Z m.out (by rw[t.1];exact VK.hi) (VK.hZ.trans t.1.symm) t.2 ?_;have C:jb ((p.setRow l (dm wk)).heap[l]?=jc (jj (dm wk) VK.t (0,0))):=O (jZ _ _ _ _ _ _ m.out);have D:jb (jm w w (p.setRow l (dm wk))):=O (iS d X _);have u:(p.setRow l (dm wk)).heap[M]?=jc (jj y VG.t (0,0)):=(jL _ _ _ _ (λe=>by have h:=m.out;rw[<-e,f]at h;injection h with h;injection h with _ h;exact js h L)).trans f;generalize p.setRow l (dm wk)=x9 at C D u⊢;refine j _ _ u λ_=>?_
   clear j u;refine G ?_;refine cr ?_;refine fa ?_;have c0:=ah (i:=0) C W
   go_wp2_with fail
   go_ret2;exact⟨yW (jU (λb=>qj #[_,.bool b]) (by rw[<-V];cases wk<;>rfl)),D⟩
  refine cY N (λx j=>?_);rw[jz ai];refine gM VK.t N VK.Z VK.hal ?_;have B:=O d.size;obtain⟨H,l,r,o,m,a⟩:=cX x2 VK.Z VK.t;rw[<-r,<-o];replace d:=aj d a;replace f:=ae f a;replace F:=O (F.below a);have X:jb (w.heap.size<=l):=O (by rw[o];exact B);refine j _ _ f.out λ_=>?_
  clear j r o a B;refine G ?_;refine cY N (λx j=>?_);go_simp;have n:=uj q _ v2 v3 g vm vt H F (HG.below d) P (Q.below d) R WB Ww VT;rw[<-V8]at n;refine n.mono ?_;rintro e p ⟨wk,rfl,z,s,a⟩;replace d:=aj d a;replace f:=ae f a;replace m:=ae m a;have t:=O (sM (wk:=wk) λk U=>(z k U).kin (K.below d));have V:=O s;have W:jb ((dm wk)[0]?=jc (jd je ((et g (q.map (·.1))).elim 0 λc=>(c.ix:jh)))):=O (by rw[<-s];cases wk<;>rfl);refine j _ _ f.out λ_=>?_
  clear j n z s a;refine G ?_;iterate 3 refine cr ?_
  refine cY N (λx j=>?_);rw[jz ai];refine jV VK.t _ _ N l (dm wk) N N VK.t VK.Z m.out (by rw[t.1];exact VK.hi) (VK.hZ.trans t.1.symm) t.2 ?_;have C:jb ((p.setRow l (dm wk)).heap[l]?=jc (jj (dm wk) VK.t (0,0))):=O (jZ _ _ _ _ _ _ m.out);have D:jb (jm w w (p.setRow l (dm wk))):=O (iS d X _);have u:(p.setRow l (dm wk)).heap[M]?=jc (jj y VG.t (0,0)):=(jL _ _ _ _ (λe=>by have h:=m.out;rw[<-e,f]at h;injection h with h;injection h with _ h;exact js h L)).trans f;generalize p.setRow l (dm wk)=x9 at C D u⊢;refine j _ _ u λ_=>?_
  clear j u;refine G ?_;refine cr ?_;refine fa ?_;have c0:=ah (i:=0) C W
  go_wp2_with fail
  go_ret2;exact⟨yW (jU (λb=>qj #[_,.bool b]) (by rw[<-V];cases wk<;>rfl)),D⟩
 refine cY N (λx j=>?_);rw[jz ai];refine gM VK.t N VK.Z VK.hal ?_;have B:=O d.size;obtain⟨x2,l,r,o,m,a⟩:=cX x1 VK.Z VK.t;rw[<-r,<-o];replace d:=aj d a;replace f:=ae f a;have X:jb (w.heap.size<=l):=O (by rw[o];exact B);refine j _ _ f.out λ_=>?_
 clear j r o a B;refine G ?_;refine cY N (λx j=>?_);go_simp;refine(pX q _ x2 (K.below d) P (Q.below d) R).mono ?_;rintro e H ⟨v2,v3,rfl,S,a⟩;have F:=O (S.mono (E:=(·<H.heap.size)) λb o=>o.2);replace d:=aj d a;replace f:=ae f a;replace m:=ae m a;refine j _ _ f.out λ_=>?_
 clear j S a;refine G ?_;refine cY N (λx j=>?_);go_simp;have n:=uj q _ v2 v3 g vm vt H F (HG.below d) P (Q.below d) R WB Ww VT;rw[<-V8]at n;refine n.mono ?_;rintro e p ⟨wk,rfl,z,s,a⟩;replace d:=aj d a;replace f:=ae f a;replace m:=ae m a;have t:=O (sM (wk:=wk) λk U=>(z k U).kin (K.below d));have V:=O s;have W:jb ((dm wk)[0]?=jc (jd je ((et g (q.map (·.1))).elim 0 λc=>(c.ix:jh)))):=O (by rw[<-s];cases wk<;>rfl);refine j _ _ f.out λ_=>?_
 clear j n z s a;refine G ?_;iterate 3 refine cr ?_
 refine cY N (λx j=>?_);rw[jz ai];refine jV VK.t _ _ N l (dm wk) N N VK.t VK.Z m.out (by rw[t.1];exact VK.hi) (VK.hZ.trans t.1.symm) t.2 ?_;have C:jb ((p.setRow l (dm wk)).heap[l]?=jc (jj (dm wk) VK.t (0,0))):=O (jZ _ _ _ _ _ _ m.out);have D:jb (jm w w (p.setRow l (dm wk))):=O (iS d X _);have u:(p.setRow l (dm wk)).heap[M]?=jc (jj y VG.t (0,0)):=(jL _ _ _ _ (λe=>by have h:=m.out;rw[<-e,f]at h;injection h with h;injection h with _ h;exact js h L)).trans f;generalize p.setRow l (dm wk)=x9 at C D u⊢;refine j _ _ u λ_=>?_
 clear j u;refine G ?_;refine cr ?_;refine fa ?_;have c0:=ah (i:=0) C W
 go_wp2_with fail
 go_ret2;exact⟨yW (jU (λb=>qj #[_,.bool b]) (by rw[<-V];cases wk<;>rfl)),D⟩
section
section
variable {q1 q2 q3 q4:CQ}
theorem Df{P:Cmt->Prop}(b:P cS3)(c:P bU)(d:P cN)(e:P bF):∀p∈[(cS3,q3),(bU,q2),(cN,q4),(bF,q1)],P p.1:=by
 intro p a;simp only[jK,jN,or_false]at a
 rcases a with rfl|rfl|rfl|rfl
 ·exact b
 ·exact c
 ·exact d
 exact e
theorem rW:[(cS3,q3),(bU,q2),(cN,q4),(bF,q1)].map (·.1)=[cS3,bU,cN,bF]:=N
theorem Az:∀p∈[(cS3,q3),(bU,q2),(cN,q4),(bF,q1)],p.1.chg.length<=1000000:=
 Df (P:=λc=>c.chg.length<=1000000) (by rw[iO.1];decide) (by rw[nS.1];simp) (by rw[iO.2.2.1];decide) (by rw[mr.1];simp)
theorem wN:∀p∈[(cS3,q3),(bU,q2),(cN,q4),(bF,q1)],cT (aP p.1):=
 Df (P:=λc=>cT (aP c)) lD.2.2.1 lD.2.1 lD.2.2.2 lD.1
theorem NW(v:jf)(W:jk)(l:cF W v [(cS3,q3),(bU,q2),(cN,q4),(bF,q1)])(m:bS W):
 jr jn 16 #[ja (dz 3 (aG bF)).toArray,v] W λe w'=>∃a b f g,e=jt (jv #[jl a 3 b,jl f 3 g])/\
  aH (·<w'.heap.size) w' (jl a 3 b) 1 3 [jd je 3,jd je 1,jd je 2]/\jm W W w':=by
 refine(Dl _ v 3 (aG bF) (dS _) W l wN m ao Az).mono ?_;rintro e w' ⟨u1,u2,Ks,rfl,i,d,j,-,n⟩;rw[rW,oN.chain]at i;have o:Ks.length=3:=by have h:=jU qi i;simpa using h
 have p:(Ks.map λk=>jy .i64 k.ix)=[jd je 3,jd je 1,jd je 2]:=by
  have h:=jU (List.map λc:aR=>jy .i64 (c.ix:jh)) i;rw[List.map_map]at h;exact h.trans (by unfold bQ;rfl)
 rw[o]at d j;rw[p]at d;obtain⟨a,b,rfl⟩:=d.form;obtain⟨f,g,rfl⟩:=j.form;exact⟨a,b,f,g,N,d.mono λk c=>c.2,n⟩
theorem LW(g:Grp)(c:Cmt)(i:jq):(bQ g c i).ix=i:=by unfold bQ;rfl
theorem ME{a:jh}{b:LBy}{l:jo Cmt}{c:aR}(h:fC a b l=jc c):pU a b l=sO l c:=by unfold pU;rw[h]
theorem Nw:pU 3 (aG bF) [cS3,bU,cN,bF]=[⟨3,bF,aG bF,0,aB (aM 3) bF⟩,bQ (aB (aM 3) bF) bU 1,bQ (aB (aB (aM 3) bF) bU) cN 2,bQ (aB (aB (aM 3) bF) bU) cS3 0]:=by
 rw[ME oN.first];exact oN.all
theorem QV(v:jf)(W:jk)(h:cF W v [(cS3,q3),(bU,q2),(cN,q4),(bF,q1)])(i:bS W):
 jr jn 17 #[ja (dz 3 (aG bF)).toArray,v] W λe w'=>∃a b u2,e=jt (jv #[jl a 4 b,u2])/\
  aH (·<w'.heap.size) w' (jl a 4 b) 1 4 [jd je 3,jd je 1,jd je 2,jd je 0]/\jm W W w':=by
 refine(Ko _ v 3 (aG bF) (dS _) W h wN i ao).mono ?_;rintro e w' ⟨u1,u2,Ks,rfl,d,g,-,-,j⟩;rw[rW,Nw]at d;have l:Ks.length=4:=(jM (f:=CK.cand) ..).symm.trans ((jU qi d).trans N);have m:ixs Ks=[jd je 3,jd je 1,jd je 2,jd je 0]:=by
  have e:ixs Ks=(Ks.map CK.cand).map λc=>jy .i64 (c.ix:jq):=by rw[List.map_map];rfl
  rw[e,d];simp only[jY,jI,LW]
  rfl
 rw[l,m]at g;obtain⟨a,b,rfl⟩:=g.form;exact⟨a,b,u2,N,g.mono λk c=>c.2,j⟩
theorem Lr(v:jf)(W:jk)(d:cF W v [(cS3,q3),(bU,q2),(cN,q4),(bF,q1)])(f:bS W):
 jr jn 18 #[ja (dz 3 (aG bF)).toArray,v] W λe w'=>∃vm vt,e=jt (jv #[ja (aD (aB cW cN) vm vt).toArray,.bool jg])/\bH w' (aB cW cN) vm vt/\jm W W w':=by
 refine(BW _ v 3 (aG bF) (dS _) W d wN f ao Az).mono ?_;rintro e w' ⟨k,rfl,a,g,i⟩;rw[rW,oN.chain]at a
 rcases k with _|k
 ·cases a
 have b:k.g=aB cW cN:=by
  have h:=jU (Option.map aR.leads) a;exact Option.some.inj (h.trans (by unfold bQ;rfl))
 have c:=(g k N).grp.grp;rw[b]at c;refine⟨k.vm,k.vt,?_,c,i⟩;rw[<-b];rfl
theorem DF(v:jf)(W:jk)(d:cF W v [(cS3,q3),(bU,q2),(cN,q4),(bF,q1)])(f:bS W)(a:ju jf)(b:jh)(g:∀t c,((aG bU).map v8)[t]?=jc c->a[1+t]?=jc c)(i:a[33]?=jc (jd je 0))(j:a[34]?=jc (jd je b)):
 jr jn 21 #[ja (dz 3 (aG bF)).toArray,v,ja a] W λe w'=>e=jt (.bool (decide (b<=5)))/\jm W W w':=by
 have h:=DG _ v 3 (aG bF) (dS _) a (aG bU) 0 b (dS _) g i j W d wN f ao Az (by
  rw[rW,oN.chain];intro k c;have l:=nN (gY lT);have m:=nN (gY li);have n:=nN (gY mU);simp only[jK,jN,or_false]at c
  rcases c with rfl|rfl|rfl
  ·exact jJ l.1 L
  ·exact jJ m.1 L
  exact jJ n.1 L)
 rw[rW,ML oN]at h;exact h
end
theorem uz(W:jk):cF W (jl ji 0 0) []:=⟨⟨N,ji,0,N,jA _,λ_=>rfl,λh=>js h (qk _)⟩,λp a=>by cases a⟩
theorem ve(a:jh)(b:LBy):ft a b []=[]:=by
 rw[zk];rfl
theorem PQ(g:Grp):et g []=ji:=by
 unfold et eS eH;simp[bV]
theorem Jg(a:LBy)(h:a.length=32)(W:jk)(i:bS W):
 jr jn 16 #[ja (dz 3 a).toArray,jl ji 0 0] W λe w'=>∃b c d f,e=jt (jv #[jl b 0 c,jl d 0 f])/\jm W W w':=by
 refine(Dl [] _ 3 a h W (uz W) (λp g=>by cases g) i ao (λp g=>by cases g)).mono ?_;rintro e w' ⟨u1,u2,Ks,rfl,g,j,k,-,l⟩;rw[jI,ve]at g;obtain rfl:Ks=[]:=ak g;obtain⟨b,c,rfl⟩:=j.form;obtain⟨d,f,rfl⟩:=k.form;exact⟨b,c,d,f,N,l⟩
theorem OF(a:LBy)(c:a.length=32)(W:jk)(d:bS W):
 jr jn 18 #[ja (dz 3 a).toArray,jl ji 0 0] W λe w'=>e=jt (jv #[ja (kS ji),.bool jp])/\jm W W w':=by
 refine(BW [] _ 3 a c W (uz W) (λp b=>by cases b) d ao (λp b=>by cases b)).mono ?_;rintro e w' ⟨k,rfl,b,g,f⟩;rw[jI,ve]at b;obtain rfl:k=ji:=ak b;exact⟨N,f⟩
theorem Mp(W:jk)(b:bS W):
 jr jn 11 #[ja (aD kB vN vN).toArray,jl ji 0 0] W λe w'=>e=jt (jv #[jd je 0,.bool jp])/\jm W W w':=by
 refine(AS [] _ kB vN vN W (uz W) ⟨⟨N,ji,0,N,jA _,λ_=>rfl,λh=>js h (qk _)⟩,nJ W,by decide⟩ (λp a=>by cases a) b ao L L (λp a=>by cases a)).mono ?_;rintro e w' ⟨rfl,a⟩;rw[jI,PQ];exact⟨N,a⟩
theorem Kb(b:LBy)(i:b.length=32)(W:jk)(j:bS W)(a:ju jf)(c:LBy)(l:c.length=32)(f g:jh)(m:∀t d,(c.map v8)[t]?=jc d->a[1+t]?=jc d)(n:a[33]?=jc (jd je f))(o:a[34]?=jc (jd je g)):
 jr jn 21 #[ja (dz 3 b).toArray,jl ji 0 0,ja a] W λe w'=>e=jt (.bool jp)/\jm W W w':=by
 have h:=DG [] (jl ji 0 0) 3 b i a c f g l m n o W (uz W) (λp d=>by cases d) j ao (λp d=>by cases d) (by rw[jI,ve];intro k d;cases d);rw[jI,ve]at h;exact h
end
section
variable{b:CQ}{a:Cmt}{e:j7}
section
variable {P:Program} {ops:ju jO} {Q:Exit->Act->jk->Prop}
theorem eC.four(R:eC P){o:jO}{l:jo jO}{a:Act}{w:jk}(m:o.guard=ji)(f g j k:j5)(n:o.op=.buildSlice R.t 4 #[(0,f),(1,g),(2,j),(3,k)])(A0 b c d:ju jf)(p:a.eval f=ja A0)(q:a.eval g=ja b)(r:a.eval j=ja c)(s:a.eval k=ja d)
 (t:A0.size=R.k) (s1:b.size=R.k) (s2:c.size=R.k) (s3:d.size=R.k) (h:wpList P ops Q l (a.put o.dst (jl (jc ⟨w,0,ji⟩) 4 4)) (w.alloc (jj (A0.toList++(b.toList++(c.toList++d.toList))).toArray R.e))):wpList P ops Q (o::l) a w:=by
 have u:=R.hk;have y:=R.h0;refine wpList_buildSlice m R.t R.e 4 _ n (A0.toList++(b.toList++(c.toList++d.toList))).toArray R.i R.z R.ht R.hi R.hz (by rw[R.hs];omega) (by rw[R.hs];omega) ?_ h;have e:((#[(0,f),(1,g),(2,j),(3,k)]:ju (jq×j5)).map fun(i,x)=>(i,a.eval x)).toList=(([j3 A0,ja b,ja c,ja d]:jo jf).zipIdx 0).map λx=>(x.2,x.1):=by simp[p,q,r,s]
 rw[e,R.hs];refine(Great.fill_whole R.h0 [j3 A0,ja b,ja c,ja d] _ (λv i=>?_) ao).trans (by simp[mb]);simp only[jK,jN,or_false]at i
 rcases i with rfl|rfl|rfl|rfl
 ·exact t
 ·exact s1
 ·exact s2
 exact s3
end
noncomputable def RCm:eC jn:=.of 41 37 73 200 (ja (aF mR nK).toArray) underlying41 af (by rw[mb,jC];exact dl _ _ L L) L L L
theorem OY{a:Act}{o:jO}{x:j5}{b:ju jf}(c:b.size=32)(d:o.op=.build 59 #[(0,.const (jd je 3)),(1,x)])(e:a.eval x=ja b)(W:jk):
 (execOp a.eval o).run jn W=.ok (.value (ja (#[jd je 3]++b))) W:=by
 have f:(dz 0 cI).toArray=([]++([jy .i64 0]++(cI.map v8++[]))).toArray:=by kernel_rfl
 have g:=uE (P:=jn) (t:=59) (zero:=ja (dz 0 cI).toArray) (places:=#[(0,1),(1,32)]) (λw=>by kernel_rfl) underlying59 (λw=>by kernel_rfl)
  (parts:=#[(0,jd je 3),(1,ja b)]) (X:=(#[jd je 3]++b)) (by
   show Instr.fill _ (dz 0 cI).toArray [(0,jy .i64 3),(1,j3 b)]=_;rw[f,mF (A0:=[]) (off:=0) (size:=1) N N N N];show Instr.fill _ ([jy .i64 3]++_).toArray _ =_;rw[mF (A0:=[jy .i64 3]) (off:=1) (size:=32) N N N (v:=ja b) c,Instr.fill];simp[mb]) W
 simp only[execOp,d,qe,jY,jI,e];simp only[Sem.run_bind,show a.eval (.const (jd je 3))=jy .i64 3 from N,g,Result.andThen_ok,Sem.run_pure]
def itT:jo jf:=[jd je 0,jd je 0,jd je 0,jd je 0]++(cI.map v8++[jl ji 0 0,jd je 0,jd je 0])
def itC(a:jo jf)(b:jh):jo jf:=[jd je 0]++(a++([jd je 0]++([jd je b]++itT)))
noncomputable def VIt:VarT jn:=⟨70,74,(itC (cI.map v8) 0).toArray,_,underlying70,N,by kernel_rfl,rfl,λ_=>by kernel_rfl⟩
theorem MK{a:Act}{o:jO}{x:j5}{b:ju jf}(c:b.size=32)(d:o.op=.build 70 #[(1,x),(3,.const (jd je 5))])(f:a.eval x=ja b)(W:jk):
 (execOp a.eval o).run jn W=.ok (.value (ja (itC b.toList 5).toArray)) W:=by
 have g:=uE (P:=jn) (t:=70) (zero:=ja (itC (cI.map v8) 0).toArray) (places:=#[(0,1),(1,32),(33,1),(34,1),(35,1),(36,1),(37,34),(71,1),(72,2)]) (λw=>by kernel_rfl) underlying70 (λw=>by kernel_rfl)
  (parts:=#[(1,ja b),(3,jd je 5)]) (X:=(itC b.toList 5).toArray) (by
   show Instr.fill _ (itC (cI.map v8) 0).toArray [(1,j3 b),(3,jy .i64 5)]=_;have h:b.toList.length=32:=by rw[j9];exact c
   unfold itC;rw[mF (A0:=[jy .i64 0]) (off:=1) (size:=32) N N N (v:=ja b) c];show Instr.fill _ ([jy .i64 0]++(b.toList++([jy .i64 0]++([jy .i64 0]++itT)))).toArray _ =_;have e:∀l:jo jf,[jy .i64 0]++(b.toList++([jy .i64 0]++l))=([jy .i64 0]++b.toList++[jy .i64 0])++l:=λl=>by simp
   rw[e,mF (A0:=[jy .i64 0]++b.toList++[jy .i64 0]) (off:=34) (size:=1) N (by simp[h]) N (v:=jd je 5) N,Instr.fill];show jc (([jy .i64 0]++b.toList++[jy .i64 0])++([jy .i64 5]++itT)).toArray=_;rw[<-e]) W
 simp only[execOp,d,qe,jY,jI,f];simp only[Sem.run_bind,show a.eval (.const (jd je 5))=jy .i64 5 from N,g,Result.andThen_ok,Sem.run_pure]
structure ItP(a:ju jf)(c:LBy)(d:jh):Prop where
 sz:a.size=VIt.n
 one:a.all (·.oneCell')=jg
 id:∀t b,(c.map v8)[t]?=jc b->a[1+t]?=jc b
 dev:a[33]?=jc (jd je 0)
 ctr:a[34]?=jc (jd je d)
theorem itP(b:LBy)(c:jh)(h:b.length=32):ItP (itC (b.map v8).toArray.toList c).toArray b c:=by
 have d:(b.map v8).length=32:=by rw[jM];exact h
 refine⟨?_,?_,λt e a=>?_,?_,?_⟩
 ·show _ =74
  unfold itC itT;simp[h,cI]
 ·rw[j4]
  intro e a;unfold itC itT at a;simp only[ql,j0,jK,jN,or_false,o8]at a
  rcases a with rfl|a|rfl|rfl|(rfl|rfl|rfl|rfl)|a|rfl|rfl|rfl
  all_goals first|rfl|exact iu _ e a
 ·have f:t<(b.map v8).length:=(jR.1 a).1
  unfold itC;rw[o8,jX,jW ao,pz,show 1+t-1=t by omega,nn f];exact a
 ·unfold itC
  rw[o8,jX,jW ao,pz,jW Y,d]
  rfl
 unfold itC;rw[o8,jX,jW ao,pz,jW Y,d]
 rfl
theorem Om(c:jo jf)(a b:jh)(h:c.length=32):(itC c a).toArray.setIfInBounds 34 (jd je b)=(itC c b).toArray:=by
 rw[List.setIfInBounds_toArray];refine jU List.toArray ?_;unfold itC;rw[qA _ _ ao,pz,qA _ _ Y,h]
 rfl
theorem CG(W:jk):bH W kB vN vN:=⟨⟨N,ji,0,N,jA _,λ_=>rfl,λh=>js h (qk _)⟩,nJ W,by decide⟩
structure S5(w:jk)(BL:jo (jq×ju jf×jF))(CL:jo CP)(GL:jo (Grp×jf×jf))(v:jf)(LS:jo CP)(g:Grp)(m t u1 u2:jf)(x:jk):Prop where
 s:SSt w BL CL GL x
 ci:cF x v LS
 gi:bH x g m t
 at_:aH (·<x.heap.size) x u1 1 3 [jd je 3,jd je 1,jd je 2]
 al:aH (·<x.heap.size) x u2 1 4 [jd je 3,jd je 1,jd je 2,jd je 0]
section
variable {w x x':jk} {BL:jo (jq×ju jf×jF)} {CL LS:jo CP} {GL:jo (Grp×jf×jf)} {v m t u1 u2:jf} {g:Grp}
theorem S5.below(h:S5 w BL CL GL v LS g m t u1 u2 x)(a:jm x x x'):S5 w BL CL GL v LS g m t u1 u2 x':=
 ⟨h.s.below a,h.ci.below a,h.gi.below a,(h.at_.keep λk b=>a.block k b).mono λk b=>jw b a.size,(h.al.keep λk b=>a.block k b).mono λk b=>jw b a.size⟩
theorem S5.block(h:S5 w BL CL GL v LS g m t u1 u2 x){b:jq}{a:ju jf}{c:jF}(d:x.heap[b]?=jc (jj a c (0,0))):S5 w ((b,a,c)::BL) CL GL v LS g m t u1 u2 x:=⟨h.s.block d,h.ci,h.gi,h.at_,h.al⟩
end
structure gZ(g:Grp)(c:Cmt)(W w':jk)(e:j7)(q:CQ)(vm vt:jf)(a b:ju jf):Prop where
 ret:e=jt (jv #[ja a,ja b,.bool jg])
 ac:a=(aF c q).toArray
 ag:b=(aD (aB g c) vm vt).toArray
 com:aT (λk=>W.heap.size<=k/\k<w'.heap.size) w' c q
 grp:dN (λk=>W.heap.size<=k/\k<w'.heap.size) w' (aB g c) vm vt
 bel:jm W W w'
theorem gZ.csz{g:Grp}{W w':jk}{vm vt:jf}{c q:ju jf}(h:gZ g a W w' e b vm vt c q):c.size=VC.n:=by
 rw[h.ac,jC];exact dl _ _ h.com.plen h.com.clen
theorem gZ.cone{g:Grp}{W w':jk}{vm vt:jf}{c q:ju jf}(h:gZ g a W w' e b vm vt c q):c.all (·.oneCell')=jg:=by
 rw[h.ac,j4];exact λd f=>nD h.com d (ak f)
theorem gZ.gsz{g:Grp}{W w':jk}{vm vt:jf}{q c:ju jf}(h:gZ g a W w' e b vm vt q c):c.size=VG.n:=by
 rw[h.ag,jC];exact eX h.grp.grp.llen
theorem gZ.gone{g:Grp}{W w':jk}{vm vt:jf}{i f:ju jf}(h:gZ g a W w' e b vm vt i f):f.all (·.oneCell')=jg:=by
 obtain⟨p,l,c,n',q,rfl,rfl⟩:∃p k c n' q,vm=jl p (aB g a).mem.length k/\vt=jl c n' q:=by
  obtain⟨p,a,d,-⟩:=h.grp.grp.mem.form;obtain⟨c,n',q,j⟩:=gu h.grp.grp.tree;exact⟨p,a,c,n',q,d,j⟩
 rw[h.ag,j4];intro j d;simp only[aD,ql,jK,j0,jN,or_false]at d
 rcases d with rfl|rfl|d|rfl|rfl
 ·rfl
 ·rfl
 ·exact iu _ j d
 ·rfl
 rfl
theorem vF{g:Grp}{vm vt:jf}{d:jq}(h:d<512)(b:BitVec 8){x:ar}{c:Cmt}(i:ie g (d:jh) ((d+2:jq):jh) [x]=0)(j:c=mkC g (d:jh) (d+2) [x] (kz b) (kz 1) (kz b))(k:gz g c)(l:cT (aP c))
 {a:ju jf} (n:a=(aD g vm vt).toArray) {f:jf} {W:jk} (o:bH W g vm vt) (p:gJ W) (r:aH (·<W.heap.size) W f 5 1 x.cells):
 jr jn 13 #[ja a,jd je (d:jh),v8 b,f] W λe w'=>∃q s u v w,gZ g c W w' e q s u v w:=by
 rw[n];refine(O7 h b o r p i c j k l).mono ?_;rintro e w' ⟨q,m,t,y,z,B,C⟩;exact⟨q,m,t,_,_,y,N,N,z,B,C⟩
theorem BU(V U:VarT jn)(x:jk)(a:ju jf):(((x.alloc (jj V.Z V.t)).alloc (jj U.Z U.t)).setRow x.heap.size a).heap[x.heap.size+1]?=jc (jj U.Z U.t (0,0)):=by
 have h:=jE (x.alloc (jj V.Z V.t)) (jj U.Z U.t);rw[j1]at h;exact(jL _ _ _ _ Y).trans h
theorem JF(V U:VarT jn)(a B:ju jf)(x:jk):∃x' b,x'=(((x.alloc (jj V.Z V.t)).alloc (jj U.Z U.t)).setRow x.heap.size a).setRow (x.heap.size+1) B/\b=x.heap.size/\
 x'.heap[b]?=jc (jj a V.t (0,0))/\x'.heap[b+1]?=jc (jj B U.t (0,0))/\jm x x x':=by
 have c:((x.alloc (jj V.Z V.t)).alloc (jj U.Z U.t)).heap[x.heap.size]?=jc (jj V.Z V.t (0,0)):=av (jE x _) (ap _ _);have d:=(ap x (jj V.Z V.t)).trans ((ap (x.alloc (jj V.Z V.t)) (jj U.Z U.t)).mono (ap x (jj V.Z V.t)).size);refine⟨_,_,N,N,(jL _ _ _ _ Y).trans (jZ _ _ _ _ _ _ c),jZ _ _ _ _ _ _ (BU V U x a),p6 (p6 d (jA _) a) (Nat.le_succ _) B⟩
structure fx(d W:jk)(e f:jf)(g:Grp)(c:Cmt)(q:CQ)(m t:jf)(a b:ju jf):Prop where
 ac:a=(aF c q).toArray
 ag:b=(aD (aB g c) m t).toArray
 csz:a.size=VC.n
 cone:a.all (·.oneCell')=jg
 gsz:b.size=VG.n
 gone:b.all (·.oneCell')=jg
 ex:∃D:jq->Prop,aT D W c q/\dN D W (aB g c) m t/\∀k,D k->d.heap.size<=k/\k<W.heap.size/\e≠ptr k/\f≠ptr k
theorem fx.keep{e W f:jk}{i j:jf}{g:Grp}{c:Cmt}{q:CQ}{m t:jf}{l n:ju jf}(h:fx e W i j g c q m t l n)(d:jm W W f):fx e f i j g c q m t l n:=by
 obtain⟨o,p,r,s,u,v,D,w,x,b⟩:=h;exact⟨o,p,r,s,u,v,D,w.keep λk a=>d.block k (b k a).2.1,x.keep λk a=>d.block k (b k a).2.1,λk a=>⟨(b k a).1,jw (b k a).2.1 d.size,(b k a).2.2⟩⟩
theorem fx.c{d W:jk}{l f:jf}{g:Grp}{c:Cmt}{q:CQ}{m t:jf}{i j:ju jf}(h:fx d W l f g c q m t i j){n:jq}(y:W.heap.size<=n):fx d W (ptr n) f g c q m t i j:=by
 obtain⟨o,p,r,s,u,v,D,w,x,a⟩:=h;exact⟨o,p,r,s,u,v,D,w,x,λk b=>⟨(a k b).1,(a k b).2.1,λe=>(by injection e with e;injection e with e;injection e with e;have:=(a k b).2.1;omega),(a k b).2.2.2⟩⟩
theorem fx.g{d W:jk}{f l:jf}{g:Grp}{c:Cmt}{q:CQ}{m t:jf}{i j:ju jf}(h:fx d W f l g c q m t i j){n:jq}(y:W.heap.size<=n):fx d W f (ptr n) g c q m t i j:=by
 obtain⟨o,p,r,s,u,v,D,w,x,a⟩:=h;exact⟨o,p,r,s,u,v,D,w,x,λk b=>⟨(a k b).1,(a k b).2.1,(a k b).2.2.1,λe=>(by injection e with e;injection e with e;injection e with e;have:=(a k b).2.1;omega)⟩⟩
theorem fx.of{b W d:jk}{f i:jf}{g:Grp}{c:Cmt}{q:CQ}{m t:jf}{j l:ju jf}(h:gZ g c W d e q m t j l)(n:b.heap.size<=W.heap.size)(o:∀k,W.heap.size<=k->f≠ptr k)(p:∀k,W.heap.size<=k->i≠ptr k):fx b d f i g c q m t j l:=
 ⟨h.ac,h.ag,h.csz,h.cone,h.gsz,h.gone,_,h.com,h.grp,λk a=>⟨jJ n a.1,a.2,o k a.1,p k a.1⟩⟩
theorem fx.end{d W:jk}{C K:jq}{g:Grp}{m t:jf}{c q:ju jf}(h:fx d W (ptr C) (ptr K) g a b m t c q)(r:jm d d W)(l:W.heap[C]?=jc (jj VC.Z VC.t (0,0)))(s:d.heap.size<=C)
 (i:W.heap[K]?=jc (jj VG.Z VG.t (0,0))) (u:d.heap.size<=K):(W.setRow C c).heap[K]?=jc (jj VG.Z VG.t (0,0))/\∃y,y=(W.setRow C c).setRow K q/\y.heap[C]?=jc (jj c VC.t (0,0))/\y.heap[K]?=jc (jj q VG.t (0,0))/\aT (·<y.heap.size) y a b/\bH y (aB g a) m t/\jm d d y:=by
 have n:C≠K:=by
  rintro rfl;rw[l]at i;simp[VC,VG]at i
 obtain⟨z,B,-,-,-,-,D,v,w,j⟩:=h;have o:=(jL W C K c (Ne.symm n)).trans i;have x:((W.setRow C c).setRow K q).heap.size=W.heap.size:=by rw[setRow_size,setRow_size]
 have p:∀k,D k->((W.setRow C c).setRow K q).heap[k]?=W.heap[k]?:=λk f=>(jL _ K k q (λe=>(j k f).2.2.2 (by rw[e]))).trans (jL W C k c (λe=>(j k f).2.2.1 (by rw[e])))
 exact⟨o,_,N,(jL _ K C q n).trans (jZ W C _ c _ _ l),jZ _ K _ q _ _ o,(v.keep p).mono λk f=>by rw[x];exact(j k f).2.1,(w.keep p).grp,p6 (p6 r s c) u q⟩
def T9(b:jk)(f s1 s2 s3 s29 s30 s31 s32 s33 s34 s35 s36:jf)(h E:ju jf)(g:Grp)(c:Cmt)(j:jq)(i k:Bool)(a:Act)(W:jk):Prop:=
 ∃T39 T40 T41 T37 T42 T43 T44 T4 T5,a={tmps:=#[f,s1,s2,s3,T4,T5,I,I,I,I,I,I,I,I,I,I,I,I,I,I,I,I,I,I,I,I,I,I,I,s29,s30,s31,s32,s33,s34,s35,s36,T37,ja h,T39,T40,T41,T42,T43,T44,I,I,I,I,I,I,I,I,I,I,I,I,I,I,I,I,I,I,I,I,I,I,I,I,I,I,I,I,I,I,I,I,I,I,I,I,I,I,I,I,I,I,I,I,I,I,I,I,I,I,I,I,I,I,I,I,I,I,I,I,I,I,I,I,I,I,I,I,I,I,I,I,I,I,I,I,I,I,I,I,I,I,I,I,I,I,I,I,I,I,I,I,I,I,I,I,I,I,I,I,I,I,I,I,I,I,I,I,I,I,I,I,I,I,I,I,I,I,I,I,I,I,I,I,I,I,I,I,I,I,I,I,I,I,I,I,I,I,I,I,I,I,I,I,I,I,I,I,I,I,I,I,I,I,I,I,I,I,I,I,I,I,I,I,I,I],defers:=[]}/\jm b b W/\(1<=j->T39=ja E)/\(2<=j->aH (·<W.heap.size) W T40 5 1 E.toList)/\
  (3<=j->∃q m t d e,T41=jv #[ja d,ja e,.bool jg]/\(4<=j->T37=T41)/\(5<=j->T42=ja d)/\(6<=j->T43=ja e)/\(7<=j->T44=.bool jg)/\fx b W T4 T5 g c q m t d e)/\
  iB VC.t VC.Z b i T4 W/\iB VG.t VG.Z b k T5 W
def OA(b:jk)(f s1 s2 s3 s4 s5 s6 s29 s30 s31 s32 s33 s34 s35 s36 s37 s38 s39 s40 s41 s42 s43 s44:jf)(h E:ju jf)(g:Grp)(c:Cmt)(j:jq)(i k:Bool)(a:Act)(W:jk):Prop:=
 ∃T47 T48 T49 T45 T50 T51 T52 T7 T8,a={tmps:=#[f,s1,s2,s3,s4,s5,s6,T7,T8,I,I,I,I,I,I,I,I,I,I,I,I,I,I,I,I,I,I,I,I,s29,s30,s31,s32,s33,s34,s35,s36,s37,s38,s39,s40,s41,s42,s43,s44,T45,ja h,T47,T48,T49,T50,T51,T52,I,I,I,I,I,I,I,I,I,I,I,I,I,I,I,I,I,I,I,I,I,I,I,I,I,I,I,I,I,I,I,I,I,I,I,I,I,I,I,I,I,I,I,I,I,I,I,I,I,I,I,I,I,I,I,I,I,I,I,I,I,I,I,I,I,I,I,I,I,I,I,I,I,I,I,I,I,I,I,I,I,I,I,I,I,I,I,I,I,I,I,I,I,I,I,I,I,I,I,I,I,I,I,I,I,I,I,I,I,I,I,I,I,I,I,I,I,I,I,I,I,I,I,I,I,I,I,I,I,I,I,I,I,I,I,I,I,I,I,I,I,I,I,I,I,I,I,I,I,I,I,I,I,I,I,I,I,I],defers:=[]}/\jm b b W/\(1<=j->T47=ja E)/\(2<=j->aH (·<W.heap.size) W T48 5 1 E.toList)/\
  (3<=j->∃q m t d e,T49=jv #[ja d,ja e,.bool jg]/\(4<=j->T45=T49)/\(5<=j->T50=ja d)/\(6<=j->T51=ja e)/\(7<=j->T52=.bool jg)/\fx b W T7 T8 g c q m t d e)/\
  iB VC.t VC.Z b i T7 W/\iB VG.t VG.Z b k T8 W
def Js(b:jk)(f s1 s2 s3 s4 s5 s6 s7 s8 s9 s29 s30 s31 s32 s33 s34 s35 s36 s37 s38 s39 s40 s41 s42 s43 s44 s45 s46 s47 s48 s49 s50 s51 s52:jf)(h E:ju jf)(g:Grp)(c:Cmt)(j:jq)(i k:Bool)(a:Act)(W:jk):Prop:=
 ∃T55 T56 T57 T53 T58 T59 T60 T10 WE,a={tmps:=#[f,s1,s2,s3,s4,s5,s6,s7,s8,s9,T10,WE,I,I,I,I,I,I,I,I,I,I,I,I,I,I,I,I,I,s29,s30,s31,s32,s33,s34,s35,s36,s37,s38,s39,s40,s41,s42,s43,s44,s45,s46,s47,s48,s49,s50,s51,s52,T53,ja h,T55,T56,T57,T58,T59,T60,I,I,I,I,I,I,I,I,I,I,I,I,I,I,I,I,I,I,I,I,I,I,I,I,I,I,I,I,I,I,I,I,I,I,I,I,I,I,I,I,I,I,I,I,I,I,I,I,I,I,I,I,I,I,I,I,I,I,I,I,I,I,I,I,I,I,I,I,I,I,I,I,I,I,I,I,I,I,I,I,I,I,I,I,I,I,I,I,I,I,I,I,I,I,I,I,I,I,I,I,I,I,I,I,I,I,I,I,I,I,I,I,I,I,I,I,I,I,I,I,I,I,I,I,I,I,I,I,I,I,I,I,I,I,I,I,I,I,I,I,I,I,I,I,I,I,I,I,I,I],defers:=[]}/\jm b b W/\(1<=j->T55=ja E)/\(2<=j->aH (·<W.heap.size) W T56 5 1 E.toList)/\
  (3<=j->∃q m t d e,T57=jv #[ja d,ja e,.bool jg]/\(4<=j->T53=T57)/\(5<=j->T58=ja d)/\(6<=j->T59=ja e)/\(7<=j->T60=.bool jg)/\fx b W T10 WE g c q m t d e)/\
  iB VC.t VC.Z b i T10 W/\iB VG.t VG.Z b k WE W
theorem J5(w:jk)(a:gJ w):jr jn 4 #[] w λe w'=>e=jt (.bool jg)/\jm w w w':=by
 have f:=O (SSt.start a);clear a;obtain⟨bb,h⟩:=J AG3;have j:=O h;obtain⟨E1,a⟩:=J ((cR 1).cells.toArray);have i:jb (E1.size=5):=O (by rw[a];rfl);have m:jb (E1.toList=(cR 1).cells):=O (by rw[a]);have k:jb (∀W,jr jn 14 #[jd je 1] W λe w'=>e=jt (ja E1)/\jm W W w'):=O (λW=>by rw[a];exact FQ 1 L W);have n:jb (∀(W:jk) (vl:jf),gJ W->aH (·<W.heap.size) W vl 5 1 E1.toList->jr jn 13 #[ja bb,jd je 1,jd .u8 1,vl] W λe w'=>∃q vm vt l AG,gZ (aM 3) bF W w' e q vm vt l AG):=O (λW vl P hs=>by
  rw[m]at hs;exact vF (d:=1) L 1#8 wn.1 N lT lD.1 h (SU W 3) P hs)
 obtain⟨E0,b⟩:=J ((cR 0).cells.toArray);have Wy:jb (E0.size=5):=O (by rw[b];rfl);have au:jb (E0.toList=(cR 0).cells):=O (by rw[b]);have Vr:jb (∀W,jr jn 14 #[jd je 0] W λe w'=>e=jt (ja E0)/\jm W W w'):=O (λW=>by rw[b];exact FQ 0 L W);obtain⟨F1,c⟩:=J ((dJ 1 5).cells.toArray);have a6:jb (F1.size=5):=O (by rw[c];rfl);have a5:jb (F1.toList=(dJ 1 5).cells):=O (by rw[c]);have UR:jb (∀W,jr jn 15 #[jd je 1,jd je 5] W λe w'=>e=jt (ja F1)/\jm W W w'):=O (λW=>by rw[c];exact GB 1 5 W);obtain⟨F0,g⟩:=J ((dJ 0 5).cells.toArray);have bh:jb (F0.size=5):=O (by rw[g];rfl);have bl:jb (F0.toList=(dJ 0 5).cells):=O (by rw[g]);have U1:jb (∀W,jr jn 15 #[jd je 0,jd je 5] W λe w'=>e=jt (ja F0)/\jm W W w'):=O (λW=>by rw[g];exact GB 0 5 W);clear h a b c g
 go_enter func4,ntmps4
 go_upto_region 1 with fail
 go_wp2_with (refine eD (v:=ja bb) ai (by rw[j];exact Ji N _) ?_;refine G ?_)
 refine(k w).mono ?_;rintro e x1 ⟨rfl,b⟩;replace f:=O (f.below b);clear b k
 go_wp2_with (refine n0 N λ_ B=>RCg.wp_build (.tmp 31) N (ja E1) N i (B _ _ ?_);clear B;refine G ?_)
 have g:jb (aH (·<(x1.alloc (jj E1 RCg.e)).heap.size) (x1.alloc (jj E1 RCg.e)) (jl (jc ⟨x1,0,ji⟩) 1 1) 5 1 E1.toList):=O (uR (jE x1 _) i);replace f:=O (f.below (ap x1 (jj E1 RCg.e)));refine(n _ _ f.tab g).mono ?_;rintro e x2 ⟨q1,m1,t1,S,R,a⟩;obtain rfl:=a.ret;replace f:=O ((f.below a.bel).made a.com (λk h=>h.2) a.grp.grp);have c:=O a;have bi:=O a.ac;have bv:=O a.ag;clear a n g i m j
 go_upto_region 2 with(first|(refine VC.made N N (G ?_))|(refine VG.made N N ?_;rw[j1];refine G ?_)|(refine VC.store N N N S N c.csz c.cone (av (jE x2 _) (ap _ _)) VC.hZ (G ?_))|(refine VG.store N N N R N c.gsz c.gone (BU VC VG x2 S) VG.hZ (G ?_)))
 obtain⟨x3,B1,z,U,u,x,b⟩:=JF VC VG S R x2;rw[<-z,<-U];replace f:=O (((f.below b).block x).block u);have bc:jb (R.size=VG.n):=O c.gsz;have bf:jb (S.size=VC.n):=O c.csz;clear z U u x b c;have VN:jb (∀(W:jk) (vl:jf),gJ W->bH W (aB (aM 3) bF) m1 t1->aH (·<W.heap.size) W vl 5 1 E0.toList->jr jn 13 #[ja R,jd je 1,jd .u8 2,vl] W λe w'=>∃q vm vt l AG,gZ (aB (aM 3) bF) bU W w' e q vm vt l AG):=O (λW vl P hg hs=>by
  rw[au]at hs;exact vF (d:=1) L 2#8 wn.2.1 N li lD.2.1 bv hg P hs)
 have b:=bX x3;obtain⟨x4,z⟩:=J x3.drew;have HX:=O z;rw[<-z]at b;replace f:=O (f.below b);clear z b;refine j6 ?_;refine uw (λF=>F.heap[B1+1]?=jc (jj R VG.t (0,0))) [0] [(1,jp),(2,jp),(3,jp),(4,jg),(5,jg),(6,jg),(7,jg)] 8 9 (.o 10 (.o 11 (.t 12 .done))) (T9 x4 (.bool jp) (ptr B1) (ptr (B1+1)) (.bool jg) (jv #[ja S,ja R,.bool jg]) (ja bb) (ja E1) (jl (jc ⟨x1,0,ji⟩) 1 1) (jv #[ja S,ja R,.bool jg]) (ja S) (ja R) (.bool jg) R E0 (aB (aM 3) bF) bU) af af af af af L (λ_ _ _ _ h=>h) (by rw[<-HX];exact f.blk (_,_,_) ao) ?hIR2 ?hTR2 ?hCR2 ?h1R2 ?h2R2 ?hER2 ?h0R2
 case hIR2=>
  rintro j b1 b2 a W ⟨T39,T40,T41,T37,T42,T43,T44,T4,T5,rfl,b,u,x,C,r,s⟩;exact av (f.blk (_,_,_) ao) b
 case h1R2=>
  rintro j b2 a W ⟨T39,T40,T41,T37,T42,T43,T44,T4,T5,rfl,b,u,x,C,r,s⟩;refine jG (o:=_) N (λV B=>?_);rw[jz ai];refine gM VC.t N VC.Z VC.hal ?_;have c:=ap W (jj VC.Z VC.t);refine B _ _ ⟨T39,T40,T41,T37,T42,T43,T44,ptr W.heap.size,T5,N,b.trans (c.mono b.size),u,(λe=>((x e).keep λk g=>c.block k g).mono λk (g:k<W.heap.size)=>jw g c.size),λe=>?_,⟨λ_=>⟨_,N,jE _ _,b.size⟩,λh=>(by cases h)⟩,s.keep c⟩;obtain⟨q,m,t,l,p,X,D,E,K,M,n⟩:=C e;exact⟨q,m,t,l,p,X,D,E,K,M,(n.c (jA _)).keep c⟩
 case h2R2=>
  rintro j b1 a W ⟨T39,T40,T41,T37,T42,T43,T44,T4,T5,rfl,b,u,x,C,r,s⟩;refine jG (o:=_) N (λV B=>?_);rw[jz ai];refine gM VG.t N VG.Z VG.hal ?_;have c:=ap W (jj VG.Z VG.t);refine B _ _ ⟨T39,T40,T41,T37,T42,T43,T44,T4,ptr W.heap.size,N,b.trans (c.mono b.size),u,(λe=>((x e).keep λk g=>c.block k g).mono λk (g:k<W.heap.size)=>jw g c.size),λe=>?_,r.keep c,⟨λ_=>⟨_,N,jE _ _,b.size⟩,λh=>(by cases h)⟩⟩;obtain⟨q,m,t,l,p,X,D,E,K,M,n⟩:=C e;exact⟨q,m,t,l,p,X,D,E,K,M,(n.g (jA _)).keep c⟩
 case h0R2=>
  rw[<-HX]
  (refine nL (v:=ja R) N ai (λF hS=>cM VG.hu VG.hd (by rw[bc];exact VG.hi) N N hS) ?_;refine G ?_)
  exact⟨I,I,I,I,I,I,I,I,I,N,jH _ _,λh=>js h L,λh=>js h L,λh=>js h L,⟨λh=>(by cases h),λ_=>rfl⟩,⟨λh=>(by cases h),λ_=>rfl⟩⟩
 case hTR2=>
  rintro j i H b1 b2 a W ⟨T39,T40,T41,T37,T42,T43,T44,T4,T5,rfl,b,u,x,C,r,s⟩
  rcases j with _ |_ |_ |_ |_ |_ |_ |j
  iterate 3 (·simp at H)
  ·obtain rfl:i=4:=ak H.symm
   obtain⟨q,m,t,l,p,X,D,E,K,M,n⟩:=C Y;refine⟨_,T41,N,.inl ⟨by rfl,λF hS=>.inl (by go_simp;try with_reducible rfl)⟩,?_⟩;exact⟨T39,T40,T41,T41,T42,T43,T44,T4,T5,N,b,λ_=>u Y,λ_=>x Y,λ_=>⟨q,m,t,l,p,X,λ_=>rfl,(λh=>js h Y),(λh=>js h Y),(λh=>js h Y),n⟩,r,s⟩
  ·obtain rfl:i=5:=ak H.symm
   obtain⟨q,m,t,l,p,rfl,D,E,K,M,n⟩:=C Y;obtain rfl:=D Y;refine⟨_,ja l,N,.inl ⟨by rfl,λF hS=>.inl (by go_simp;try with_reducible rfl)⟩,?_⟩;exact⟨T39,T40,_,_,_,T43,T44,T4,T5,N,b,λ_=>u Y,λ_=>x Y,λ_=>⟨q,m,t,l,p,N,λ_=>rfl,λ_=>rfl,(λh=>js h Y),(λh=>js h Y),n⟩,r,s⟩
  ·obtain rfl:i=6:=ak H.symm
   obtain⟨q,m,t,l,p,rfl,D,E,K,M,n⟩:=C Y;obtain rfl:=D Y;refine⟨_,ja p,N,.inl ⟨by rfl,λF hS=>.inl (by go_simp;try with_reducible rfl)⟩,?_⟩;exact⟨T39,T40,_,_,T42,_,T44,T4,T5,N,b,λ_=>u Y,λ_=>x Y,λ_=>⟨q,m,t,l,p,N,λ_=>rfl,λ_=>E Y,λ_=>rfl,(λh=>js h Y),n⟩,r,s⟩
  ·obtain rfl:i=7:=ak H.symm
   obtain⟨q,m,t,l,p,rfl,D,E,K,M,n⟩:=C Y;obtain rfl:=D Y;refine⟨_,.bool jg,N,.inl ⟨by rfl,λF hS=>.inl (by go_simp;try with_reducible rfl)⟩,?_⟩;exact⟨T39,T40,_,_,T42,T43,_,T4,T5,N,b,λ_=>u Y,λ_=>x Y,λ_=>⟨q,m,t,l,p,N,λ_=>rfl,λ_=>E Y,λ_=>K Y,λ_=>rfl,n⟩,r,s⟩
  simp at H
 case hCR2=>
  rintro j i H b1 b2 a W ⟨T39,T40,T41,T37,T42,T43,T44,T4,T5,rfl,b,u,x,C,r,s⟩
  rcases j with _ |_ |_ |_ |_ |_ |_ |j
  ·obtain rfl:i=1:=ak H.symm
   refine jG (o:=_) N (λV B=>?_);go_simp;refine(Vr W).mono ?_;rintro e F ⟨rfl,c⟩;exact B _ _ ⟨_,T40,T41,T37,T42,T43,T44,T4,T5,N,b.trans (c.mono b.size),λ_=>rfl,(λh=>js h Y),(λh=>js h Y),r.keep c,s.keep c⟩
  ·obtain rfl:i=2:=ak H.symm
   obtain rfl:=u Y;refine jG (o:=_) N (λV B=>?_);rw[jz ai];refine RCg.wp_build (.tmp 39) N (ja E0) N Wy ?_;have c:=ap W (jj E0 RCg.e);exact B _ _ ⟨_,_,T41,T37,T42,T43,T44,T4,T5,N,b.trans (c.mono b.size),λ_=>rfl,λ_=>uR (jE W _) Wy,(λh=>js h Y),r.keep c,s.keep c⟩
  ·obtain rfl:i=3:=ak H.symm
   have ad:=x Y;obtain rfl:=u Y;clear x;refine jG (o:=_) N (λV B=>?_);go_simp;refine(VN W _ ((f.below b).tab) ((f.below b).grp ((aB (aM 3) bF),m1,t1) ao) ad).mono ?_;rintro e F ⟨q,m,t,l,p,hP⟩;obtain rfl:=hP.ret;have c:=hP.bel;exact B _ _ ⟨_,T40,_,T37,T42,T43,T44,T4,T5,N,b.trans (c.mono b.size),λ_=>rfl,λ_=>(ad.keep λk g=>c.block k g).mono λk (g:k<W.heap.size)=>jw g c.size,λ_=>⟨q,m,t,l,p,N,(λh=>js h Y),(λh=>js h Y),(λh=>js h Y),(λh=>js h Y),fx.of hP b.size (λk g=>r.ne g) (λk g=>s.ne g)⟩,r.keep c,s.keep c⟩
  iterate 5 (·simp at H)
 rintro a W ⟨T39,T40,T41,T37,T42,T43,T44,T4,T5,rfl,b,u,x,C,r,s⟩;obtain⟨q2,m2,t2,aa,Q,rfl,D,E,K,M,n⟩:=C L;obtain rfl:=D L;obtain rfl:=E L;obtain rfl:=K L;obtain rfl:=M L;obtain⟨C2,rfl,hC,ax⟩:=r.1 N;obtain⟨K2,rfl,B,ay⟩:=s.1 N;obtain⟨a1,y,hy,y1,y2,y3,y4,y5⟩:=n.end b hC ax B ay;have a2:=(f.below b).blk (B1+1,R,VG.t) ao;have a3:=(f.below y5).blk (B1+1,R,VG.t) ao;have ba:=O n.csz;have bg:=O n.gsz;have bk:=O n.ac;have bm:=O n.ag;have a4:B1+1≠C2:=λe=>by have h:=(jP.1 (f.blk (B1+1,R,VG.t) ao)).1;dsimp only at h;omega
 replace f:=O ((((f.below y5).made y3 (λk h=>h) y4).block y2).block y1);refine aE N (λV Vf=>?_);rw[jz ai];refine jV VC.t _ _ N C2 aa N N VC.t VC.Z hC (by rw[ba];exact VC.hi) (VC.hZ.trans ba.symm) n.cone ?_;refine Vf _ _ ((jL W C2 _ aa a4).trans a2) λ_=>?_
 clear Vf;refine G ?_;refine aE N (λV Vf=>?_);rw[jz ai];refine jV VG.t _ _ N K2 Q N N VG.t VG.Z a1 (by rw[bg];exact VG.hi) (VG.hZ.trans bg.symm) n.gone ?_;rw[<-hy];refine Vf _ _ a3 λ_=>?_
 clear Vf hC ax B ay b u x C D E K M n r s a1 hy y1 y2 y3 y4 y5 a2 a3 a4 HX;refine G ?_;refine aK ?_;refine jQ ?_;obtain⟨x5,z⟩:=J y;rw[<-z]at f⊢;clear z
 go_upto_region 3 with fail
 clear VN Vr Wy au bc;have Wx:jb (∀(W:jk) (vl:jf),gJ W->bH W (aB (aB (aM 3) bF) bU) m2 t2->aH (·<W.heap.size) W vl 5 1 F1.toList->jr jn 13 #[ja Q,jd je 0,jd .u8 3,vl] W λe w'=>∃q vm vt l AG,gZ (aB (aB (aM 3) bF) bU) cS3 W w' e q vm vt l AG):=O (λW vl P hg hs=>by
  rw[a5]at hs;exact vF (d:=0) L 3#8 wn.2.2.1 N D9 lD.2.2.1 bm hg P hs)
 have b:=bX x5;obtain⟨x6,z⟩:=J x5.drew;have HX:=O z;rw[<-z]at b;replace f:=O (f.below b);clear z b;refine j6 ?_;refine uw (λF=>F.heap[K2]?=jc (jj Q VG.t (0,0))) [0] [(1,jp),(2,jp),(3,jp),(4,jg),(5,jg),(6,jg),(7,jg)] 8 9 (.o 10 (.o 11 (.t 12 .done))) (OA x6 (.bool jp) (ptr B1) (ptr (B1+1)) (.bool jg) (ptr C2) (ptr K2) (.bool jg) (jv #[ja S,ja R,.bool jg]) (ja bb) (ja E1) (jl (jc ⟨x1,0,ji⟩) 1 1) (jv #[ja S,ja R,.bool jg]) (ja S) (ja R) (.bool jg) (jv #[ja aa,ja Q,.bool jg]) (ja R) (T39) (T40) (jv #[ja aa,ja Q,.bool jg]) (ja aa) (ja Q) (.bool jg) Q F1 (aB (aB (aM 3) bF) bU) cS3) af af af af af L (λ_ _ _ _ h=>h) (by rw[<-HX];exact f.blk (_,_,_) ao) ?hIR3 ?hTR3 ?hCR3 ?h1R3 ?h2R3 ?hER3 ?h0R3
 case hIR3=>
  rintro j b1 b2 a W ⟨T47,T48,T49,T45,T50,T51,T52,T7,T8,rfl,b,u,x,C,r,s⟩;exact av (f.blk (_,_,_) ao) b
 case h1R3=>
  rintro j b2 a W ⟨T47,T48,T49,T45,T50,T51,T52,T7,T8,rfl,b,u,x,C,r,s⟩;refine jG (o:=_) N (λV B=>?_);rw[jz ai];refine gM VC.t N VC.Z VC.hal ?_;have c:=ap W (jj VC.Z VC.t);refine B _ _ ⟨T47,T48,T49,T45,T50,T51,T52,ptr W.heap.size,T8,N,b.trans (c.mono b.size),u,(λe=>((x e).keep λk g=>c.block k g).mono λk (g:k<W.heap.size)=>jw g c.size),λe=>?_,⟨λ_=>⟨_,N,jE _ _,b.size⟩,λh=>(by cases h)⟩,s.keep c⟩;obtain⟨q,m,t,l,p,X,D,E,K,M,n⟩:=C e;exact⟨q,m,t,l,p,X,D,E,K,M,(n.c (jA _)).keep c⟩
 case h2R3=>
  rintro j b1 a W ⟨T47,T48,T49,T45,T50,T51,T52,T7,T8,rfl,b,u,x,C,r,s⟩;refine jG (o:=_) N (λV B=>?_);rw[jz ai];refine gM VG.t N VG.Z VG.hal ?_;have c:=ap W (jj VG.Z VG.t);refine B _ _ ⟨T47,T48,T49,T45,T50,T51,T52,T7,ptr W.heap.size,N,b.trans (c.mono b.size),u,(λe=>((x e).keep λk g=>c.block k g).mono λk (g:k<W.heap.size)=>jw g c.size),λe=>?_,r.keep c,⟨λ_=>⟨_,N,jE _ _,b.size⟩,λh=>(by cases h)⟩⟩;obtain⟨q,m,t,l,p,X,D,E,K,M,n⟩:=C e;exact⟨q,m,t,l,p,X,D,E,K,M,(n.g (jA _)).keep c⟩
 case h0R3=>
  rw[<-HX]
  (refine nL (v:=ja Q) N ai (λF hS=>cM VG.hu VG.hd (by rw[bg];exact VG.hi) N N hS) ?_;refine G ?_)
  exact⟨I,I,I,I,I,I,I,I,I,N,jH _ _,λh=>js h L,λh=>js h L,λh=>js h L,⟨λh=>(by cases h),λ_=>rfl⟩,⟨λh=>(by cases h),λ_=>rfl⟩⟩
 case hTR3=>
  rintro j i H b1 b2 a W ⟨T47,T48,T49,T45,T50,T51,T52,T7,T8,rfl,b,u,x,C,r,s⟩
  rcases j with _ |_ |_ |_ |_ |_ |_ |j
  iterate 3 (·simp at H)
  ·obtain rfl:i=4:=ak H.symm
   obtain⟨q,m,t,l,p,X,D,E,K,M,n⟩:=C Y;refine⟨_,T49,N,.inl ⟨by rfl,λF hS=>.inl (by go_simp;try with_reducible rfl)⟩,?_⟩;exact⟨T47,T48,T49,T49,T50,T51,T52,T7,T8,N,b,λ_=>u Y,λ_=>x Y,λ_=>⟨q,m,t,l,p,X,λ_=>rfl,(λh=>js h Y),(λh=>js h Y),(λh=>js h Y),n⟩,r,s⟩
  ·obtain rfl:i=5:=ak H.symm
   obtain⟨q,m,t,l,p,rfl,D,E,K,M,n⟩:=C Y;obtain rfl:=D Y;refine⟨_,ja l,N,.inl ⟨by rfl,λF hS=>.inl (by go_simp;try with_reducible rfl)⟩,?_⟩;exact⟨T47,T48,_,_,_,T51,T52,T7,T8,N,b,λ_=>u Y,λ_=>x Y,λ_=>⟨q,m,t,l,p,N,λ_=>rfl,λ_=>rfl,(λh=>js h Y),(λh=>js h Y),n⟩,r,s⟩
  ·obtain rfl:i=6:=ak H.symm
   obtain⟨q,m,t,l,p,rfl,D,E,K,M,n⟩:=C Y;obtain rfl:=D Y;refine⟨_,ja p,N,.inl ⟨by rfl,λF hS=>.inl (by go_simp;try with_reducible rfl)⟩,?_⟩;exact⟨T47,T48,_,_,T50,_,T52,T7,T8,N,b,λ_=>u Y,λ_=>x Y,λ_=>⟨q,m,t,l,p,N,λ_=>rfl,λ_=>E Y,λ_=>rfl,(λh=>js h Y),n⟩,r,s⟩
  ·obtain rfl:i=7:=ak H.symm
   obtain⟨q,m,t,l,p,rfl,D,E,K,M,n⟩:=C Y;obtain rfl:=D Y;refine⟨_,.bool jg,N,.inl ⟨by rfl,λF hS=>.inl (by go_simp;try with_reducible rfl)⟩,?_⟩;exact⟨T47,T48,_,_,T50,T51,_,T7,T8,N,b,λ_=>u Y,λ_=>x Y,λ_=>⟨q,m,t,l,p,N,λ_=>rfl,λ_=>E Y,λ_=>K Y,λ_=>rfl,n⟩,r,s⟩
  simp at H
 case hCR3=>
  rintro j i H b1 b2 a W ⟨T47,T48,T49,T45,T50,T51,T52,T7,T8,rfl,b,u,x,C,r,s⟩
  rcases j with _ |_ |_ |_ |_ |_ |_ |j
  ·obtain rfl:i=1:=ak H.symm
   refine jG (o:=_) N (λV B=>?_);go_simp;refine(UR W).mono ?_;rintro e F ⟨rfl,c⟩;exact B _ _ ⟨_,T48,T49,T45,T50,T51,T52,T7,T8,N,b.trans (c.mono b.size),λ_=>rfl,(λh=>js h Y),(λh=>js h Y),r.keep c,s.keep c⟩
  ·obtain rfl:i=2:=ak H.symm
   obtain rfl:=u Y;refine jG (o:=_) N (λV B=>?_);rw[jz ai];refine RCg.wp_build (.tmp 47) N (ja F1) N a6 ?_;have c:=ap W (jj F1 RCg.e);exact B _ _ ⟨_,_,T49,T45,T50,T51,T52,T7,T8,N,b.trans (c.mono b.size),λ_=>rfl,λ_=>uR (jE W _) a6,(λh=>js h Y),r.keep c,s.keep c⟩
  ·obtain rfl:i=3:=ak H.symm
   have ad:=x Y;obtain rfl:=u Y;clear x;refine jG (o:=_) N (λV B=>?_);go_simp;refine(Wx W _ ((f.below b).tab) ((f.below b).grp ((aB (aB (aM 3) bF) bU),m2,t2) ao) ad).mono ?_;rintro e F ⟨q,m,t,l,p,hP⟩;obtain rfl:=hP.ret;have c:=hP.bel;exact B _ _ ⟨_,T48,_,T45,T50,T51,T52,T7,T8,N,b.trans (c.mono b.size),λ_=>rfl,λ_=>(ad.keep λk g=>c.block k g).mono λk (g:k<W.heap.size)=>jw g c.size,λ_=>⟨q,m,t,l,p,N,(λh=>js h Y),(λh=>js h Y),(λh=>js h Y),(λh=>js h Y),fx.of hP b.size (λk g=>r.ne g) (λk g=>s.ne g)⟩,r.keep c,s.keep c⟩
  iterate 5 (·simp at H)
 rintro a W ⟨T47,T48,T49,T45,T50,T51,T52,T7,T8,rfl,b,u,x,C,r,s⟩;obtain⟨q3,m3,t3,au,AG3,rfl,D,E,K,M,n⟩:=C L;obtain rfl:=D L;obtain rfl:=E L;obtain rfl:=K L;obtain rfl:=M L;obtain⟨C3,rfl,hC,ax⟩:=r.1 N;obtain⟨K3,rfl,B,ay⟩:=s.1 N;obtain⟨a1,y,hy,y1,y2,y3,y4,y5⟩:=n.end b hC ax B ay;have a2:=(f.below b).blk (K2,Q,VG.t) ao;have a3:=(f.below y5).blk (K2,Q,VG.t) ao;have bc:=O n.csz;have bn:=O n.gsz;have bo:=O n.ac;have b3:=O n.ag;have a4:K2≠C3:=λe=>by have h:=(jP.1 (f.blk (K2,Q,VG.t) ao)).1;dsimp only at h;omega
 replace f:=O ((((f.below y5).made y3 (λk h=>h) y4).block y2).block y1);refine aE N (λV Vf=>?_);rw[jz ai];refine jV VC.t _ _ N C3 au N N VC.t VC.Z hC (by rw[bc];exact VC.hi) (VC.hZ.trans bc.symm) n.cone ?_;refine Vf _ _ ((jL W C3 _ au a4).trans a2) λ_=>?_
 clear Vf;refine G ?_;refine aE N (λV Vf=>?_);rw[jz ai];refine jV VG.t _ _ N K3 AG3 N N VG.t VG.Z a1 (by rw[bn];exact VG.hi) (VG.hZ.trans bn.symm) n.gone ?_;rw[<-hy];refine Vf _ _ a3 λ_=>?_
 clear Vf hC ax B ay b u x C D E K M n r s a1 hy y1 y2 y3 y4 y5 a2 a3 a4 HX;refine G ?_;refine aK ?_;refine jQ ?_;obtain⟨x7,z⟩:=J y;rw[<-z]at f⊢;clear z
 go_upto_region 4 with fail
 clear Wx UR a6 a5;have bp:jb (∀(W:jk) (vl:jf),gJ W->bH W (aB (aB (aM 3) bF) bU) m2 t2->aH (·<W.heap.size) W vl 5 1 F0.toList->jr jn 13 #[ja Q,jd je 1,jd .u8 4,vl] W λe w'=>∃q vm vt l AG,gZ (aB (aB (aM 3) bF) bU) cN W w' e q vm vt l AG):=O (λW vl P hg hs=>by
  rw[bl]at hs;exact vF (d:=1) L 4#8 wn.2.2.2 N mU lD.2.2.2 bm hg P hs)
 have b:=bX x7;obtain⟨x8,z⟩:=J x7.drew;have HX:=O z;rw[<-z]at b;replace f:=O (f.below b);clear z b;refine j6 ?_;refine uw (λF=>F.heap[K2]?=jc (jj Q VG.t (0,0))) [0] [(1,jp),(2,jp),(3,jp),(4,jg),(5,jg),(6,jg),(7,jg)] 8 9 (.o 10 (.o 11 (.t 12 .done))) (Js x8 (.bool jp) (ptr B1) (ptr (B1+1)) (.bool jg) (ptr C2) (ptr K2) (.bool jg) (ptr C3) (ptr K3) (.bool jg) (jv #[ja S,ja R,.bool jg]) (ja bb) (ja E1) (jl (jc ⟨x1,0,ji⟩) 1 1) (jv #[ja S,ja R,.bool jg]) (ja S) (ja R) (.bool jg) (jv #[ja aa,ja Q,.bool jg]) (ja R) (T39) (T40) (jv #[ja aa,ja Q,.bool jg]) (ja aa) (ja Q) (.bool jg) (jv #[ja au,ja AG3,.bool jg]) (ja Q) (T47) (T48) (jv #[ja au,ja AG3,.bool jg]) (ja au) (ja AG3) (.bool jg) Q F0 (aB (aB (aM 3) bF) bU) cN) af af af af af L (λ_ _ _ _ h=>h) (by rw[<-HX];exact f.blk (_,_,_) ao) ?hIR4 ?hTR4 ?hCR4 ?h1R4 ?h2R4 ?hER4 ?h0R4
 case hIR4=>
  rintro j b1 b2 a W ⟨T55,T56,T57,T53,T58,T59,T60,T10,WE,rfl,b,u,x,C,r,s⟩;exact av (f.blk (_,_,_) ao) b
 case h1R4=>
  rintro j b2 a W ⟨T55,T56,T57,T53,T58,T59,T60,T10,WE,rfl,b,u,x,C,r,s⟩;refine jG (o:=_) N (λV B=>?_);rw[jz ai];refine gM VC.t N VC.Z VC.hal ?_;have c:=ap W (jj VC.Z VC.t);refine B _ _ ⟨T55,T56,T57,T53,T58,T59,T60,ptr W.heap.size,WE,N,b.trans (c.mono b.size),u,(λe=>((x e).keep λk g=>c.block k g).mono λk (g:k<W.heap.size)=>jw g c.size),λe=>?_,⟨λ_=>⟨_,N,jE _ _,b.size⟩,λh=>(by cases h)⟩,s.keep c⟩;obtain⟨q,m,t,l,p,X,D,E,K,M,n⟩:=C e;exact⟨q,m,t,l,p,X,D,E,K,M,(n.c (jA _)).keep c⟩
 case h2R4=>
  rintro j b1 a W ⟨T55,T56,T57,T53,T58,T59,T60,T10,WE,rfl,b,u,x,C,r,s⟩;refine jG (o:=_) N (λV B=>?_);rw[jz ai];refine gM VG.t N VG.Z VG.hal ?_;have c:=ap W (jj VG.Z VG.t);refine B _ _ ⟨T55,T56,T57,T53,T58,T59,T60,T10,ptr W.heap.size,N,b.trans (c.mono b.size),u,(λe=>((x e).keep λk g=>c.block k g).mono λk (g:k<W.heap.size)=>jw g c.size),λe=>?_,r.keep c,⟨λ_=>⟨_,N,jE _ _,b.size⟩,λh=>(by cases h)⟩⟩;obtain⟨q,m,t,l,p,X,D,E,K,M,n⟩:=C e;exact⟨q,m,t,l,p,X,D,E,K,M,(n.g (jA _)).keep c⟩
 case h0R4=>
  rw[<-HX]
  (refine nL (v:=ja Q) N ai (λF hS=>cM VG.hu VG.hd (by rw[bg];exact VG.hi) N N hS) ?_;refine G ?_)
  exact⟨I,I,I,I,I,I,I,I,I,N,jH _ _,λh=>js h L,λh=>js h L,λh=>js h L,⟨λh=>(by cases h),λ_=>rfl⟩,⟨λh=>(by cases h),λ_=>rfl⟩⟩
 case hTR4=>
  rintro j i H b1 b2 a W ⟨T55,T56,T57,T53,T58,T59,T60,T10,WE,rfl,b,u,x,C,r,s⟩
  rcases j with _ |_ |_ |_ |_ |_ |_ |j
  iterate 3 (·simp at H)
  ·obtain rfl:i=4:=ak H.symm
   obtain⟨q,m,t,l,p,X,D,E,K,M,n⟩:=C Y;refine⟨_,T57,N,.inl ⟨by rfl,λF hS=>.inl (by go_simp;try with_reducible rfl)⟩,?_⟩;exact⟨T55,T56,T57,T57,T58,T59,T60,T10,WE,N,b,λ_=>u Y,λ_=>x Y,λ_=>⟨q,m,t,l,p,X,λ_=>rfl,(λh=>js h Y),(λh=>js h Y),(λh=>js h Y),n⟩,r,s⟩
  ·obtain rfl:i=5:=ak H.symm
   obtain⟨q,m,t,l,p,rfl,D,E,K,M,n⟩:=C Y;obtain rfl:=D Y;refine⟨_,ja l,N,.inl ⟨by rfl,λF hS=>.inl (by go_simp;try with_reducible rfl)⟩,?_⟩;exact⟨T55,T56,_,_,_,T59,T60,T10,WE,N,b,λ_=>u Y,λ_=>x Y,λ_=>⟨q,m,t,l,p,N,λ_=>rfl,λ_=>rfl,(λh=>js h Y),(λh=>js h Y),n⟩,r,s⟩
  ·obtain rfl:i=6:=ak H.symm
   obtain⟨q,m,t,l,p,rfl,D,E,K,M,n⟩:=C Y;obtain rfl:=D Y;refine⟨_,ja p,N,.inl ⟨by rfl,λF hS=>.inl (by go_simp;try with_reducible rfl)⟩,?_⟩;exact⟨T55,T56,_,_,T58,_,T60,T10,WE,N,b,λ_=>u Y,λ_=>x Y,λ_=>⟨q,m,t,l,p,N,λ_=>rfl,λ_=>E Y,λ_=>rfl,(λh=>js h Y),n⟩,r,s⟩
  ·obtain rfl:i=7:=ak H.symm
   obtain⟨q,m,t,l,p,rfl,D,E,K,M,n⟩:=C Y;obtain rfl:=D Y;refine⟨_,.bool jg,N,.inl ⟨by rfl,λF hS=>.inl (by go_simp;try with_reducible rfl)⟩,?_⟩;exact⟨T55,T56,_,_,T58,T59,_,T10,WE,N,b,λ_=>u Y,λ_=>x Y,λ_=>⟨q,m,t,l,p,N,λ_=>rfl,λ_=>E Y,λ_=>K Y,λ_=>rfl,n⟩,r,s⟩
  simp at H
 case hCR4=>
  rintro j i H b1 b2 a W ⟨T55,T56,T57,T53,T58,T59,T60,T10,WE,rfl,b,u,x,C,r,s⟩
  rcases j with _ |_ |_ |_ |_ |_ |_ |j
  ·obtain rfl:i=1:=ak H.symm
   refine jG (o:=_) N (λV B=>?_);go_simp;refine(U1 W).mono ?_;rintro e F ⟨rfl,c⟩;exact B _ _ ⟨_,T56,T57,T53,T58,T59,T60,T10,WE,N,b.trans (c.mono b.size),λ_=>rfl,(λh=>js h Y),(λh=>js h Y),r.keep c,s.keep c⟩
  ·obtain rfl:i=2:=ak H.symm
   obtain rfl:=u Y;refine jG (o:=_) N (λV B=>?_);rw[jz ai];refine RCg.wp_build (.tmp 55) N (ja F0) N bh ?_;have c:=ap W (jj F0 RCg.e);exact B _ _ ⟨_,_,T57,T53,T58,T59,T60,T10,WE,N,b.trans (c.mono b.size),λ_=>rfl,λ_=>uR (jE W _) bh,(λh=>js h Y),r.keep c,s.keep c⟩
  ·obtain rfl:i=3:=ak H.symm
   have ad:=x Y;obtain rfl:=u Y;clear x;refine jG (o:=_) N (λV B=>?_);go_simp;refine(bp W _ ((f.below b).tab) ((f.below b).grp ((aB (aB (aM 3) bF) bU),m2,t2) ao) ad).mono ?_;rintro e F ⟨q,m,t,l,p,hP⟩;obtain rfl:=hP.ret;have c:=hP.bel;exact B _ _ ⟨_,T56,_,T53,T58,T59,T60,T10,WE,N,b.trans (c.mono b.size),λ_=>rfl,λ_=>(ad.keep λk g=>c.block k g).mono λk (g:k<W.heap.size)=>jw g c.size,λ_=>⟨q,m,t,l,p,N,(λh=>js h Y),(λh=>js h Y),(λh=>js h Y),(λh=>js h Y),fx.of hP b.size (λk g=>r.ne g) (λk g=>s.ne g)⟩,r.keep c,s.keep c⟩
  iterate 5 (·simp at H)
 rintro a W ⟨T55,T56,T57,T53,T58,T59,T60,T10,WE,rfl,b,u,x,C,r,s⟩;obtain⟨q4,m4,t4,a5,bq,rfl,D,E,K,M,n⟩:=C L;obtain rfl:=D L;obtain rfl:=E L;obtain rfl:=K L;obtain rfl:=M L;obtain⟨C4,rfl,hC,ax⟩:=r.1 N;obtain⟨K4,rfl,B,ay⟩:=s.1 N;obtain⟨a1,y,hy,y1,y2,y3,y4,y5⟩:=n.end b hC ax B ay;have a2:=(f.below b).blk (K2,Q,VG.t) ao;have a3:=(f.below y5).blk (K2,Q,VG.t) ao;have bd:=O n.csz;have br:=O n.gsz;have bs:=O n.ac;have b1:=O n.ag;have a4:K2≠C4:=λe=>by have h:=(jP.1 (f.blk (K2,Q,VG.t) ao)).1;dsimp only at h;omega
 replace f:=O ((((f.below y5).made y3 (λk h=>h) y4).block y2).block y1);refine aE N (λV Vf=>?_);rw[jz ai];refine jV VC.t _ _ N C4 a5 N N VC.t VC.Z hC (by rw[bd];exact VC.hi) (VC.hZ.trans bd.symm) n.cone ?_;refine Vf _ _ ((jL W C4 _ a5 a4).trans a2) λ_=>?_
 clear Vf;refine G ?_;refine aE N (λV Vf=>?_);rw[jz ai];refine jV VG.t _ _ N K4 bq N N VG.t VG.Z a1 (by rw[br];exact VG.hi) (VG.hZ.trans br.symm) n.gone ?_;rw[<-hy];refine Vf _ _ a3 λ_=>?_
 clear Vf hC ax B ay b u x C D E K M n r s a1 hy y1 y2 y3 y4 y5 a2 a3 a4 HX;refine G ?_;refine aK ?_;refine jQ ?_;obtain⟨x9,z⟩:=J y;rw[<-z]at f⊢;clear z
 go_upto_region 5 with fail
 clear bp U1 bh bl
 go_upto_region 6 with(first|(refine VC.loadA ai N N au bc (f.blk (C3,au,VC.t) ao) (G ?_))|(refine VC.loadA ai N N aa ba (f.blk (C2,aa,VC.t) ao) (G ?_))|(refine VC.loadA ai N N a5 bd (f.blk (C4,a5,VC.t) ao) (G ?_))|(refine VC.loadA ai N N S bf (f.blk (B1,S,VC.t) ao) (G ?_))|(refine RCm.four N _ _ _ _ N au aa a5 S N N N N bc ba bd bf (G ?_)))
 obtain⟨bw,t,z,U,c,b⟩:=cX x9 (au.toList++(aa.toList++(a5.toList++S.toList))).toArray RCm.e;rw[<-z,<-U];obtain⟨LS,m⟩:∃l:jo CP,l=[(cS3,q3),(bU,q2),(cN,q4),(bF,q1)]:=⟨_,N⟩;have q:jb (cF bw (jl (jc ⟨t,0,ji⟩) 4 4) LS):=O (by
  rw[m];refine⟨⟨?_,_,4,N,jA _,(λe=>by cases e),λ_=>⟨t,0,N,(jP.1 c).1,λj ay hj=>?_⟩⟩,λp F=>(f.below b).com p (by rcases(by simpa using F:p=(cS3,q3)\/p=(bU,q2)\/p=(cN,q4)\/p=(bF,q1))with h|h|h|h<;>simp[h])⟩
  ·have V:(aF cS3 q3).length=73:=by have h:=bc.out;rw[bo,jC]at h;exact h
   have X:(aF bU q2).length=73:=by have h:=ba.out;rw[bk,jC]at h;exact h
   have e3:(aF cN q4).length=73:=by have h:=bd.out;rw[bs,jC]at h;exact h
   have e4:(aF bF q1).length=73:=by have h:=bf.out;rw[bi,jC]at h;exact h
   simp only[o1,qB,jT,qC,pL,V,X,e3,e4]
   rfl
  have h:=c.out;rw[bo,bk,bs,bi]at h;refine ah h ?_
  simpa [pL]using hj)
 have a2:=O m;replace f:=O (f.below b);clear z U b c m;obtain⟨I1,F⟩:=J (((aG bF).map v8).toArray);have WI:jb (I1.size=32):=O (by rw[F,jC,jM,dS]);have a1:jb (∀W,SSt w [(C4,a5,VC.t),(K4,bq,VG.t),(C3,au,VC.t),(K3,AG3,VG.t),(C2,aa,VC.t),(K2,Q,VG.t),(B1,S,VC.t),(B1+1,R,VG.t)] [(cN,q4),(cS3,q3),(bU,q2),(bF,q1)] [(aB (aB (aB (aM 3) bF) bU) cN,m4,t4),(aB (aB (aB (aM 3) bF) bU) cS3,m3,t3),(aB (aB (aM 3) bF) bU,m2,t2),(aB (aM 3) bF,m1,t1)] W->jr jn 8 #[ja S] W λe w'=>e=jt (ja I1)/\jm W W w'):=O (λW c=>by
  rw[bi,F];exact pY bF q1 W (c.com (bF,q1) ao) lD.1 c.tab.s.dig)
 obtain⟨m,V⟩:=J (#[jy .i64 3]++I1);have X:jb (m=(dz 3 (aG bF)).toArray):=O (by rw[V,F];unfold dz;simp);have a3:=O V;have ax:jb (m.size=VF.n):=O (by rw[X,jC];unfold dz;rw[qy,jM,dS];rfl);have a6:jb (m.all (·.oneCell')=jg):=O (by
  rw[X,j4];intro ay c;simp only[dz,ql,jK]at c
  rcases c with rfl|c
  ·rfl
  exact iu _ ay c)
 clear F V
 go_wp2_with (refine VC.loadA ai N N S bf (f.blk (B1,S,VC.t) ao) (G ?_))
 refine(a1 _ f.out).mono ?_;rintro e bA ⟨rfl,b⟩;replace f:=O (f.below b);replace q:=O (q.below b);clear b a1
 go_upto_region 7 with(first|(refine eD (v:=ja m) ai (by rw[a3];exact OY WI N N _) ?_;refine G ?_)|(refine VF.made N N (G ?_))|(refine VF.first N N N m N ax a6 (G ?_)))
 obtain⟨b2,F,z,U,V,b⟩:=cX bA m VF.t;rw[<-z,<-U];replace f:=O (((f.below b)).block V);replace q:=O (q.below b);clear z U b V a3 a6 WI;have VT:jb (∀W,cF W (jl (jc ⟨t,0,ji⟩) 4 4) LS->bS W->jr jn 16 #[ja m,(jl (jc ⟨t,0,ji⟩) 4 4)] W λe w'=>∃p1 V p2 c2,e=jt (jv #[jl p1 3 V,jl p2 3 c2])/\
  aH (·<w'.heap.size) w' (jl p1 3 V) 1 3 [jd je 3,jd je 1,jd je 2]/\jm W W w'):=O (λW h P=>by
   rw[X];rw[a2]at h;exact NW _ W h P)
 go_wp2_with (refine VF.loadA ai N N m ax (f.blk (F,m,VF.t) ao) (G ?_))
 refine(VT _ q.out f.tab.s.dig).mono ?_;rintro e b4 ⟨pa,ka,pg,kg,rfl,ad,b⟩;replace f:=O (f.below b);replace q:=O (q.below b);have Vt:=O ad;clear b ad VT
 go_upto_region 8 with fail
 have VS:jb (∀W,cF W (jl (jc ⟨t,0,ji⟩) 4 4) LS->bS W->jr jn 17 #[ja m,(jl (jc ⟨t,0,ji⟩) 4 4)] W λe w'=>∃p1 V u2,e=jt (jv #[jl p1 4 V,u2])/\
  aH (·<w'.heap.size) w' (jl p1 4 V) 1 4 [jd je 3,jd je 1,jd je 2,jd je 0]/\jm W W w'):=O (λW h P=>by
   rw[X];rw[a2]at h;exact QV _ W h P)
 go_wp2_with (refine VF.loadA ai N N m ax (f.blk (F,m,VF.t) ao) (G ?_))
 refine(VS _ q.out f.tab.s.dig).mono ?_;rintro e b5 ⟨pl,kl,ul,rfl,ad,b⟩;replace f:=O (f.below b);replace q:=O (q.below b);replace Vt:=O ((Vt.keep λk g=>b.block k g).mono λk g=>jw g b.size);have a1:=O ad;clear b ad VS
 go_upto_region 9 with fail
 have bh:jb (∀W,cF W (jl (jc ⟨t,0,ji⟩) 4 4) LS->bS W->jr jn 18 #[ja m,(jl (jc ⟨t,0,ji⟩) 4 4)] W λe w'=>∃vm vt,e=jt (jv #[ja (aD (aB cW cN) vm vt).toArray,.bool jg])/\bH w' (aB cW cN) vm vt/\jm W W w'):=O (λW h P=>by
  rw[X];rw[a2]at h;exact Lr _ W h P)
 go_wp2_with (refine VF.loadA ai N N m ax (f.blk (F,m,VF.t) ao) (G ?_))
 refine(bh _ q.out f.tab.s.dig).mono ?_;rintro e bB ⟨mn,tn,rfl,a4,b⟩;replace f:=O (f.below b);replace q:=O (q.below b);replace Vt:=O ((Vt.keep λk g=>b.block k g).mono λk g=>jw g b.size);replace a1:=O ((a1.keep λk g=>b.block k g).mono λk g=>jw g b.size);obtain⟨GN,a3⟩:=J ((aD (aB cW cN) mn tn).toArray);have bC:=O a3;have bI:jb (GN.size=VG.n):=O (by rw[a3,jC];exact eX a4.llen);have bl:jb (GN.all (·.oneCell')=jg):=O (by rw[a3,j4];exact λay c=>mc a4 ay (ak c));have a6:=O a4;rw[<-a3];clear b bh a3 a4
 go_upto_region 10 with(first|(refine VG.made N N (G ?_))|(refine VG.first N N N GN N bI bl (G ?_)))
 obtain⟨bK,NB,z,U,ZX,b⟩:=cX bB GN VG.t;rw[<-z,<-U];replace f:=O ((f.below b).block ZX);replace q:=O (q.below b);replace a6:=O (a6.below b);replace Vt:=O ((Vt.keep λk g=>b.block k g).mono λk g=>jw g b.size);replace a1:=O ((a1.keep λk g=>b.block k g).mono λk g=>jw g b.size);clear z U b ZX bl;have c:jb (S5 w _ _ _ (jl (jc ⟨t,0,ji⟩) 4 4) LS (aB cW cN) mn tn (jl pa 3 ka) (jl pl 4 kl) bK):=O (S5.mk f q a6 Vt a1);clear f q a6 Vt a1;obtain⟨ZG,f⟩:=J ((aD kB vN vN).toArray);have a6:=O f;clear f
 go_wp2_with (refine eD (v:=ja ZG) ai (by rw[a6];exact Aa N _) ?_;refine G ?_)
 rw[a6];refine(Mp _ c.s.tab.s.dig).mono ?_;rintro e b6 ⟨rfl,b⟩;replace c:=O (c.below b);clear b
 go_upto_region 11 with fail
 have f:jb (∀W,bS W->jr jn 16 #[ja m,jl ji 0 0] W λe w'=>∃p1 V p2 c2,e=jt (jv #[jl p1 0 V,jl p2 0 c2])/\jm W W w'):=O (λW P=>by
  rw[X];exact Jg _ (dS _) W P)
 go_wp2_with (refine VF.loadA ai N N m ax (c.s.blk (F,m,VF.t) ao) (G ?_))
 refine(f _ c.s.tab.s.dig).mono ?_;rintro e b7 ⟨b8,b9,ca,cb,rfl,b⟩;replace c:=O (c.below b);clear b;clear f
 go_upto_region 12 with fail
 obtain⟨k,f⟩:=J (kS ji);have a1:jb (k.size=VG.n):=O (by rw[f];exact VG.hZ);have g:jb (k.all (·.oneCell')=jg):=O (by rw[f];kernel_rfl);have a3:jb (k=(aD kB vN vN).toArray):=O (by rw[f];rfl);have q:jb (∀W,bS W->jr jn 18 #[ja m,jl ji 0 0] W λe w'=>e=jt (jv #[ja k,.bool jp])/\jm W W w'):=O (λW P=>by
  rw[X,f];exact OF _ (dS _) W P)
 clear f
 go_wp2_with (refine VF.loadA ai N N m ax (c.s.blk (F,m,VF.t) ao) (G ?_))
 refine(q _ c.s.tab.s.dig).mono ?_;rintro e bM ⟨rfl,b⟩;replace c:=O (c.below b);clear b;clear q
 go_upto_region 13 with(first|(refine VG.made N N (G ?_))|(refine VG.first N N N k N a1 g (G ?_)))
 obtain⟨cc,ZB,z,U,bN,b⟩:=cX bM k VG.t;rw[<-z,<-U];replace c:=O (c.below b);replace c:=O (c.block bN);clear z U b;clear g;obtain⟨I2,q⟩:=J (((aG bU).map v8).toArray);have WU:jb (I2.size=32):=O (by rw[q,jC,jM,dS]);have bh:jb (∀W,aT (·<W.heap.size) W bU q2->bS W->jr jn 8 #[ja aa] W λe w'=>e=jt (ja I2)/\jm W W w'):=O (λW h P=>by
  rw[bk,q];exact pY bU q2 W h lD.2.1 P)
 obtain⟨g,a4⟩:=J ((itC I2.toList 5).toArray);obtain⟨IL,bl⟩:=J ((itC I2.toList 6).toArray);have f:jb (ItP g (aG bU) 5/\ItP IL (aG bU) 6/\g.setIfInBounds 34 (jd je 6)=IL):=O (by
  rw[a4,bl,q];exact⟨itP _ 5 (dS _),itP _ 6 (dS _),Om _ 5 6 (by simp[dS])⟩)
 have bp:=O a4;clear q a4 bl
 go_wp2_with (refine VC.loadA ai N N aa ba (c.s.blk (C2,aa,VC.t) ao) (G ?_))
 refine(bh _ (c.s.com (bU,q2) ao) c.s.tab.s.dig).mono ?_;rintro e bO ⟨rfl,b⟩;replace c:=O (c.below b);clear b;clear bh
 go_upto_region 14 with(first|(refine eD (v:=ja g) ai (by rw[bp];exact MK WU N N _) ?_;refine G ?_)|(refine VIt.made N N (G ?_))|(refine VIt.first N N N g N f.1.sz f.1.one (G ?_)))
 obtain⟨a4,IB,z,U,bT,b⟩:=cX bO g VIt.t;rw[<-z,<-U];replace c:=O (c.below b);replace c:=O (c.block bT);clear z U b;clear bp WU
 go_upto_region 15 with(first|(refine VIt.loadA ai N N g f.1.sz (c.s.blk (IB,g,VIt.t) ao) (G ?_))|(refine VIt.made N N (G ?_))|(refine VIt.first N N N g N f.1.sz f.1.one (G ?_)))
 obtain⟨b0,NL,z,U,q,b⟩:=cX a4 g VIt.t;rw[<-z,<-U];have bh:a4.heap.size<=NL:=qh U.symm;clear z U;have U:=ah (i:=34) q f.1.ctr;have bp:=gt (o:=34) q;have Uu:=O b;have bl:=O bh;clear b bh
 go_upto_region 16 with fail
 clear U bp;have b:=Below.setCell Uu.out (p:=⟨NL,34,ji⟩) bl (jd je 6);have U:=fl (i:=34) (jd je 6) q;rw[f.2.2]at U;obtain⟨cd,z⟩:=J (b0.setCell ⟨NL,34,ji⟩ (jd je 6));rw[<-z]at b U⊢;replace c:=O (c.below b);replace c:=O (c.block U);clear z b U Uu bl q;have q:jb (∀W,jr jn 19 #[ja k,ja k] W λe w'=>e=jt (.bool jg)/\jm W W w'):=O (λW=>by
  rw[a3];exact QA kB vN vN vN vN W (CG W) (CG W) L L)
 go_wp2_with (first|(refine VG.loadA ai N N k a1 (c.s.blk (ZB,k,VG.t) ao) (G ?_))|(refine eD (v:=ja k) ai (by rw[a3];exact Aa N _) ?_;refine G ?_))
 refine(q _).mono ?_;rintro e U ⟨rfl,b⟩;replace c:=O (c.below b);clear b;clear q a3 a1
 go_upto_region 18 with fail
 have a1:jb (∀W ay,dh W ay [3,1,2]->dh W (jl pa 3 ka) [3,1,2]->jr jn 20 #[jl pa 3 ka,ay] W λe w'=>e=jt (.bool jg)/\jm W W w'):=O (λW ay u x=>by
  exact Ue [3,1,2] [3,1,2] _ _ W x u L L)
 obtain⟨-,ce,cf,q,-,-,ay⟩:=(show _ from c.al);obtain⟨gl,ol,a3,-,bh⟩:=ay L;obtain rfl:pl=jc ⟨gl,ol,ji⟩:=by injection q with e;rw[e,a3]
 have Vx:=O bh;obtain⟨pm,km,bl,-⟩:=c.gi.mem.form;rw[Ts oN]at bl;subst bl;have ZX:jb (U.cell? ⟨NB,34,ji⟩=jc (jl pm 1 km)):=O (ah (c.s.blk (NB,GN,VG.t) ao) (by rw[bC,jX];exact(lQ c.gi.llen).2.2.1));have bp:jb (∀W,cF W (jl (jc ⟨t,0,ji⟩) 4 4) LS->bS W->jr jn 21 #[ja m,(jl (jc ⟨t,0,ji⟩) 4 4),ja g] W λe w'=>e=jt (.bool jg)/\jm W W w'):=O (λW h P=>by
  rw[X];rw[a2]at h;exact DF _ W h P g 5 f.1.id f.1.dev f.1.ctr)
 have bu:jb (∀W,cF W (jl (jc ⟨t,0,ji⟩) 4 4) LS->bS W->jr jn 21 #[ja m,(jl (jc ⟨t,0,ji⟩) 4 4),ja IL] W λe w'=>e=jt (.bool jp)/\jm W W w'):=O (λW h P=>by
  rw[X];rw[a2]at h;exact DF _ W h P IL 6 f.2.1.id f.2.1.dev f.2.1.ctr)
 have Vr:jb (∀W,bS W->jr jn 21 #[ja m,jl ji 0 0,ja g] W λe w'=>e=jt (.bool jp)/\jm W W w'):=O (λW P=>by
  rw[X];exact Kb _ (dS _) W P g (aG bU) (dS _) 0 5 f.1.id f.1.dev f.1.ctr)
 clear ay bh q a3
 go_wp2_with fail
 have b:=ap U (jj #[jd je 3,jd je 1,jd je 2] 3);have Uw:=jE U (jj #[jd je 3,jd je 1,jd je 2] 3);obtain⟨P,z⟩:=J (U.alloc (jj #[jd je 3,jd je 1,jd je 2] 3));obtain⟨I3,ay⟩:=J U.heap.size;rw[<-z,<-ay]at Uw⊢;rw[<-z]at b;have c0:P.cell? ⟨gl,ol,ji⟩=jc (jd je 3):=aC (Vx 0 _ N) b;have V:P.cell? ⟨gl,ol+1,ji⟩=jc (jd je 1):=aC (Vx 1 _ N) b;have c2:P.cell? ⟨gl,ol+2,ji⟩=jc (jd je 2):=aC (Vx 2 _ N) b;have c3:P.cell? ⟨gl,ol+3,ji⟩=jc (jd je 0):=aC (Vx 3 _ N) b;have c4:=aC ZX b;replace c:=O (c.below b);have H:dh P (jl (jc ⟨I3,0,ji⟩) 3 3) [3,1,2]:=⟨_,3,N,by decide,λ_=>⟨I3,0,rfl,λj hj=>by rw[qc];exact ah Uw (by match j,hj with|0,_=>rfl|1,_=>rfl|2,_=>rfl)⟩⟩;refine(a1 P _ H (aH.ints (l:=[3,1,2]) c.at_)).mono ?_;rintro e a3 ⟨rfl,q⟩;replace c:=O (c.below q);replace c0:=aC c0 q;replace V:=aC V q;replace c2:=aC c2 q;replace c3:=aC c3 q;replace c4:=aC c4 q;clear b q H Uw z ay a1 Vx ZX
 go_wp2_with (first|(refine VF.loadA ai N N m ax (c.s.blk (F,m,VF.t) ao) (G ?_))|(refine VIt.loadA ai N N g f.1.sz (c.s.blk (IB,g,VIt.t) ao) (G ?_)))
 clear c0 V c2 c3 c4;refine(bp _ c.ci c.s.tab.s.dig).mono ?_;rintro e q ⟨rfl,b⟩;replace c:=O (c.below b);clear b;clear bp
 go_wp2_with (first|(refine VF.loadA ai N N m ax (c.s.blk (F,m,VF.t) ao) (G ?_))|(refine VIt.loadA ai N N IL f.2.1.sz (c.s.blk (NL,IL,VIt.t) ao) (G ?_)))
 refine(bu _ c.ci c.s.tab.s.dig).mono ?_;rintro e z ⟨rfl,b⟩;replace c:=O (c.below b);clear b;clear bu
 go_wp2_with (first|(refine VF.loadA ai N N m ax (c.s.blk (F,m,VF.t) ao) (G ?_))|(refine VIt.loadA ai N N g f.1.sz (c.s.blk (IB,g,VIt.t) ao) (G ?_)))
 refine(Vr _ c.s.tab.s.dig).mono ?_;rintro e ay ⟨rfl,b⟩;replace c:=O (c.below b);clear b;clear Vr
 go_wp2_with fail
 go_ret;exact⟨N,c.s.bel⟩
end
section
section
variable {P:Program} {ops:ju jO} {Q:Exit->Act->jk->Prop}
theorem eC.wp_two(R:eC P){o:jO}{a:Act}{w:jk}{K:Act->jk->Prop}(x y:j5)(d:o.op=.buildSlice R.t 2 #[(0,x),(1,y)])(b B:ju jf)(f:a.eval x=ja b)(g:a.eval y=ja B)(j:b.size=R.k)(k:B.size=R.k)
 (h:K (a.put o.dst (jl (jc ⟨w,0,ji⟩) 2 2)) (w.alloc (jj (b.toList++B.toList).toArray R.e))):o.wp P a w K Q:=by
 have l:=R.hk;have m:=R.h0;refine wp_buildSlice R.t R.e 2 _ d (b.toList++B.toList).toArray R.i R.z R.ht R.hi R.hz (by rw[R.hs];omega) (by rw[R.hs];omega) ?_ h;have e:((#[(0,x),(1,y)]:ju (jq×j5)).map fun(i,x)=>(i,a.eval x)).toList=(([j3 b,ja B]:jo jf).zipIdx 0).map λx=>(x.2,x.1):=by simp[f,g]
 rw[e,R.hs];refine(Great.fill_whole R.h0 [j3 b,ja B] _ (λv c=>?_) ao).trans (by simp[mb]);simp only[jK,jN,or_false]at c
 rcases c with rfl|rfl
 ·exact j
 exact k
end
theorem pO{P:Program}{ops:ju jO}{Q:Exit->Act->jk->Prop}{S:jk->Prop}{i:jq}{o:jO}{r:bE}{a:Act}{w:jk}(b:ops[i]?=jc o)(c:Region.wanted o (yielded ops a.tmps)=jp)(d:S w)(h:eJ P ops Q S r (a.put o.dst I) w):eJ P ops Q S (.one i r) a w:=
 aE b λf e=>by rw[if_neg (by rw[c];decide)];exact e _ _ d λ_=>h
theorem yD{W:jk}{g:jq}{a b:Cmt}{c d:CQ}{k B:ju jf}{t:jF}(h:W.heap[g]?=jc (jj (k.toList++B.toList).toArray t (0,0)))(l:k=(aF a c).toArray)(m:B=(aF b d).toArray)
 (f:aT (·<W.heap.size) W a c) (i:aT (·<W.heap.size) W b d):cF W (jl (jc ⟨g,0,ji⟩) 2 2) [(a,c),(b,d)]:=by
 refine⟨⟨?_,_,2,N,jA _,(λe=>by cases e),λ_=>⟨g,0,N,(jP.1 h).1,λj o n=>?_⟩⟩,λp e=>?_⟩
 ·simp only[o1,qB,jT,qC,pL,dl _ _ f.plen f.clen,dl _ _ i.plen i.clen]
  rfl
 ·rw[l,m]at h
  refine ah h ?_
  simpa [pL]using n
 simp only[jK,jN,or_false]at e
 rcases e with rfl|rfl
 ·exact f
 exact i
structure NxA(g:Grp)(c:Cmt)(W w':jk)(e:j7)(X:ju jf)(m t:jf):Prop where
 ret:e=jt (jv #[ja X,jd je (cC g c)])
 sz:X.size=VG.n
 one:X.all (·.oneCell')=jg
 ok:cC g c=0->X=(aD (aB g c) m t).toArray/\bH w' (aB g c) m t
 bel:jm W W w'
theorem B3(g:Grp)(vm vt:jf)(c:Cmt)(q:CQ)(w:jk)(h:bH w g vm vt)(f:aT (·<w.heap.size) w c q)(i:cT (aP c))(j:bS w)(k:g.mem.length<=900000)(l:g.tree.length<=600000):
 jr jn 9 #[ja (aD g vm vt).toArray,ja (aF c q).toArray] w λe w'=>∃X m t,NxA g c w w' e X m t:=by
 refine(yV g vm vt c q w h f i j k l).mono ?_;rintro e w' ⟨n,o,d⟩
 by_cases a:cC g c=0
 ·obtain⟨m,t,rfl,b,-,-⟩:=n a
  refine⟨_,m,t,by rw[a],by rw[jC];exact eX b.llen,?_,λ_=>⟨N,b⟩,d⟩;rw[j4];exact λp r=>mc b p (ak r)
 exact⟨_,jd je 0,jd je 0,o a,VG.hZ,by kernel_rfl,λh=>js h a,d⟩
theorem Ps(w:jk)(a B C:ju jf)(t1 t2 b:jF):∃x M,x=((w.alloc (jj a t1)).alloc (jj B t2)).alloc (jj C b)/\M=w.heap.size/\x.heap[M]?=jc (jj a t1 (0,0))/\x.heap[M+1]?=jc (jj B t2 (0,0))/\x.heap[M+2]?=jc (jj C b (0,0))/\jm w w x:=by
 obtain⟨x1,M,d,e,l,f⟩:=cX w a t1;obtain⟨x2,m,g,h,n,i⟩:=cX x1 B t2;obtain⟨o,p,q,r,s,c⟩:=cX x2 C b;have j:m=M+1:=by rw[h,d,j1,e]
 have t:p=M+2:=by rw[r,g,j1,<-h,j]
 subst j;subst t;have k:=f.trans (i.mono f.size);exact⟨o,M,by rw[q,g,d],e,av (av l i) c,av n c,s,k.trans (c.mono k.size)⟩
theorem S6(g:Grp)(vm vt:jf)(a:Cmt)(r:CQ)(b:Cmt)(s:CQ)(w:jk)(E:bH w g vm vt)(m:aT (·<w.heap.size) w a r)(n:aT (·<w.heap.size) w b s)(a2:wQ a)(a3:wQ b)(S:g.tree.length<=jB)
 (t:a.chg.length<=jB/\a.box.length<=jB/\a.wel.length<=jB) (lb:b.chg.length<=jB/\b.box.length<=jB/\b.wel.length<=jB) (hT:gJ w):
 jr jn 3 #[ja (aD g vm vt).toArray,ja (aF a r).toArray,ja (aF b s).toArray] w λe w'=>e=jt (.bool jg)/\jm w w w':=by
 have HL:=O (And.intro S (And.intro t lb));have HI:=O (And.intro a2 a3);obtain⟨j,o⟩:=J ((aD g vm vt).toArray);obtain⟨f,k⟩:=J ((aF a r).toArray);obtain⟨i,l⟩:=J ((aF b s).toArray);have YP:jb (j.size=VG.n):=O (by rw[o,jC];exact eX E.llen);have F:jb (f.size=VC.n):=O (by rw[k,jC];exact dl _ _ m.plen m.clen);have H:jb (i.size=VC.n):=O (by rw[l,jC];exact dl _ _ n.plen n.clen);obtain⟨au,u⟩:=J a.author;obtain⟨B,D⟩:=J b.author;have ax:jb (f[34]?=jc (jd je au)):=O (by rw[k,u,jX];exact(iy a r m.plen m.clen).2.2.1);have ay:jb (i[34]?=jc (jd je B)):=O (by rw[l,D,jX];exact(iy b s n.plen n.clen).2.2.1);have Q:jb (∀W,bH W g vm vt->jr jn 5 #[ja j] W λe w'=>(∃b,e=jt (.bool b)/\(b=jg->g.mem.length<=8/\g.tree.length<=80))/\jm W W w'):=O (λW h=>by rw[o];exact JS g vm vt W h S);have ad:jb (∀W v,cF W v [(a,r),(b,s)]->jr jn 6 #[v] W λe w'=>(∃y,e=jt (.bool y)/\(y=jg->rq a/\rq b))/\jm W W w'):=O (λW v h=>by
  refine(Rs _ v W h (λp x=>?_) (show 2<=jB by decide)).mono ?_
  ·simp only[jK,jN,or_false]at x
   rcases x with rfl|rfl
   ·exact t.2
   exact lb.2
  rintro e w' ⟨⟨y,h1,h2⟩,c⟩;exact⟨⟨y,h1,λe=>⟨(h2 e).2 (a,r) ao,(h2 e).2 (b,s) ao⟩⟩,c⟩)
 obtain⟨ra,y⟩:=J (gS a b.author);obtain⟨rb,U⟩:=J (gS b a.author);have a5:jb (∀W,aT (·<W.heap.size) W a r->jr jn 7 #[ja f,jd je B] W λe w'=>e=jt (.bool ra)/\jm W W w'):=O (λW h=>by rw[k,D,y];exact DC a r b.author W h t.1);have a6:jb (∀W,aT (·<W.heap.size) W b s->jr jn 7 #[ja i,jd je au] W λe w'=>e=jt (.bool rb)/\jm W W w'):=O (λW h=>by rw[l,u,U];exact DC b s a.author W h lb.1);obtain⟨IA,V⟩:=J (((aG a).map v8).toArray);obtain⟨IB,X⟩:=J (((aG b).map v8).toArray);obtain⟨ei,aa⟩:=J (decide (aG a=aG b));have ba:jb (∀z,(Op.equalIn 10000 23 (ja IA) (ja IB)).run jn z=.ok ei z):=O (λz=>by rw[V,X,aa];exact nZ _ _ (dS a) (dS b) z);have a1:jb (∀W,cT (aP a)->cT (aP b)->bS W->(aT (·<W.heap.size) W a r->jr jn 8 #[ja f] W λe w'=>e=jt (ja IA)/\jm W W w')/\
  (aT (·<W.heap.size) W b s->jr jn 8 #[ja i] W λe w'=>e=jt (ja IB)/\jm W W w')):=O (λW e1 e2 R=>by
   rw[k,l,V,X];exact⟨λh=>pY a r W h e1 R,λh=>pY b s W h e2 R⟩)
 have UX:=O (And.intro y (And.intro U aa));have z:=O (And.intro o (And.intro k l));have K:=O (And.intro u D);obtain⟨x1,M,q,hM,C,k2,k3,d⟩:=Ps w j f i VG.t VC.t VC.t;have c:jb (SSt w [(M,j,VG.t),(M+1,f,VC.t),(M+2,i,VC.t)] [(a,r),(b,s)] [(g,vm,vt)] x1):=O ⟨λe he=>by
  simp only[jK,jN,or_false]at he
  rcases he with rfl|rfl|rfl
  ·exact C
  ·exact k2
  ·exact k3,λp x=>by
  simp only[jK,jN,or_false]at x
  rcases x with rfl|rfl
  ·exact m.below d
  ·exact n.below d,λp x=>by
  simp only[jK,jN,or_false]at x;subst x;exact E.below d,hT.below d,d⟩
 rw[<-o,<-k,<-l];have P:=O q;have HM:=O hM;clear o k l u D y U V X aa q hM C k2 k3 d E m n a2 a3 S t lb hT
 go_enter func3,ntmps3
 go_upto_region 1 with fail
 rw[show((w.alloc (jj j 29)).alloc (jj f 37)).alloc (jj i 37)=x1 from P.symm]
 try simp only[j1]
 try rw[show w.heap.size+1+1=w.heap.size+2 from N]
 rw[<-HM];clear P HM
 go_wp2_with fail
 refine(J5 x1 c.tab).mono ?_;rintro e x2 ⟨rfl,d⟩;replace c:=O (c.below d);clear d
 go_upto_region 3 with fail
 have d:=bX x2;obtain⟨x3,q⟩:=J x2.drew;replace c:jb (SSt w _ _ _ x3):=O (by rw[q];exact c.below d);have P:=O q;clear q d;refine j6 ?_;refine dj (λu=>u.heap[M]?=jc (jj j VG.t (0,0))/\u.heap[M+1]?=jc (jj f VC.t (0,0))/\u.heap[M+2]?=jc (jj i VC.t (0,0))) (.t 0 (.o 1 (.t 2 (.t 3 (.t 4 (.t 5 (.o 6 (.o 7 (.t 8 (.t 9 (.t 10 (.t 11 (.t 12 (.t 13 (.t 14 (.t 15 (.t 16 (.t 17 (.t 18 (.t 19 (.t 20 (.o 21 (.t 22 (.t 23 (.t 24 (.t 25 (.t 26 (.t 27 (.o 28 (.t 29 (.t 30 (.t 31 (.t 32 (.t 34 (.o 33 (.o 35 (.t 36 (.t 37 .done)))))))))))))))))))))))))))))))))))))) af af af L (λ_ _ _ _ h=>h) (by rw[<-P];exact⟨c.blk (M,j,VG.t) ao,c.blk (M+1,f,VC.t) ao,c.blk (M+2,i,VC.t) ao⟩) ?_;rw[<-P];clear P
 (refine aS (v:=ja j) N ai (λu n=>cM VG.hu VG.hd (by rw[YP];exact VG.hi) N N n.1) ?_;refine G ?_)
 refine aE N (λS o=>?_);go_simp;refine(Q x3 (c.grp (g,vm,vt) ao)).mono ?_;rintro e x4 ⟨⟨y1,rfl,k⟩,d⟩;replace c:=O (c.below d);refine o _ _ ⟨c.blk (M,j,VG.t) ao,c.blk (M+1,f,VC.t) ao,c.blk (M+2,i,VC.t) ao⟩ λ_=>?_
 clear o d;refine G ?_;clear Q
 rcases y1 with _|_
 ·clear k
  repeat (first|refine fF ?_|refine aK ?_|(refine pO N ai ⟨c.blk (M,j,VG.t) ao,c.blk (M+1,f,VC.t) ao,c.blk (M+2,i,VC.t) ao⟩ (G ?_)))
  refine jQ ?_
  go_wp2_with fail
  go_ret;exact⟨N,c.bel⟩
 have Q:=O (k N);clear k;iterate 2 refine aK ?_
 (refine aS (v:=ja f) N ai (λu n=>cM VC.hu VC.hd (by rw[F];exact VC.hi) N N n.2.1) ?_;refine G ?_)
 (refine aS (v:=ja i) N ai (λu n=>cM VC.hu VC.hd (by rw[H];exact VC.hi) N N n.2.2) ?_;refine G ?_)
 refine aE N (λS o=>?_);rw[jz ai];refine RCm.wp_two _ _ N f i N N F H ?_;obtain⟨x5,SL,q,y,U,d⟩:=cX x4 (f.toList++i.toList).toArray RCm.e;rw[<-q,<-y];replace c:=O (c.below d);refine o _ _ ⟨c.blk (M,j,VG.t) ao,c.blk (M+1,f,VC.t) ao,c.blk (M+2,i,VC.t) ao⟩ λ_=>?_
 clear o d q y;refine G ?_;have V:jb (cF x5 (jl (jc ⟨SL,0,ji⟩) 2 2) [(a,r),(b,s)]):=O (yD U z.2.1 z.2.2 (c.com (a,r) ao) (c.com (b,s) ao));clear U;refine aE N (λS o=>?_);go_simp;refine(ad x5 _ V.out).mono ?_;rintro e x6 ⟨⟨y1,rfl,k⟩,d⟩;replace c:=O (c.below d);refine o _ _ ⟨c.blk (M,j,VG.t) ao,c.blk (M+1,f,VC.t) ao,c.blk (M+2,i,VC.t) ao⟩ λ_=>?_
 clear o d;refine G ?_;clear ad V
 rcases y1 with _|_
 ·clear k
  repeat (first|refine fF ?_|refine aK ?_|(refine pO N ai ⟨c.blk (M,j,VG.t) ao,c.blk (M+1,f,VC.t) ao,c.blk (M+2,i,VC.t) ao⟩ (G ?_)))
  refine jQ ?_
  go_wp2_with fail
  go_ret;exact⟨N,c.bel⟩
 have ad:=O (k N);clear k;iterate 4 refine aK ?_
 (refine aS (v:=?_) N ai (λu n=>?_) ?_;rotate_left;(have k:=ah n.2.1 ax;clear n;go_simp;with_reducible rfl);refine G ?_)
 refine aK ?_
 (refine aS (v:=?_) N ai (λu n=>?_) ?_;rotate_left;(have k:=ah n.2.2 ay;clear n;go_simp;with_reducible rfl);refine G ?_)
 by_cases Zj:au=B
 ·have e1:(au==B)=jg:=ak Zj
  have e2:decide (au=B)=jg:=ak Zj;clear Zj
  repeat (first|refine fF ?_|refine aK ?_|(refine pO N ai ⟨c.blk (M,j,VG.t) ao,c.blk (M+1,f,VC.t) ao,c.blk (M+2,i,VC.t) ao⟩ (G ?_)))
  refine jQ ?_
  go_wp2_with fail
  go_ret;exact⟨N,c.bel⟩
 have e1:(au==B)=jp:=ak Zj;have e2:decide (au=B)=jp:=ak Zj;have a4:=O Zj;clear Zj;refine aK ?_;clear e1 e2;iterate 2 refine aK ?_
 (refine aS (v:=ja f) N ai (λu n=>cM VC.hu VC.hd (by rw[F];exact VC.hi) N N n.2.1) ?_;refine G ?_)
 refine aK ?_
 (refine aS (v:=?_) N ai (λu n=>?_) ?_;rotate_left;(have k:=ah n.2.2 ay;clear n;go_simp;with_reducible rfl);refine G ?_)
 refine aE N (λS o=>?_);go_simp;refine(a5 x6 (c.com (a,r) ao)).mono ?_;rintro e x7 ⟨rfl,d⟩;replace c:=O (c.below d);refine o _ _ ⟨c.blk (M,j,VG.t) ao,c.blk (M+1,f,VC.t) ao,c.blk (M+2,i,VC.t) ao⟩ λ_=>?_
 clear o d;refine G ?_;clear a5
 rcases ra with _|_
 ·repeat (first|refine fF ?_|refine aK ?_|(refine pO N ai ⟨c.blk (M,j,VG.t) ao,c.blk (M+1,f,VC.t) ao,c.blk (M+2,i,VC.t) ao⟩ (G ?_)))
  refine jQ ?_
  go_wp2_with fail
  go_ret;exact⟨N,c.bel⟩
 iterate 3 refine aK ?_
 (refine aS (v:=ja i) N ai (λu n=>cM VC.hu VC.hd (by rw[H];exact VC.hi) N N n.2.2) ?_;refine G ?_)
 refine aK ?_
 (refine aS (v:=?_) N ai (λu n=>?_) ?_;rotate_left;(have k:=ah n.2.1 ax;clear n;go_simp;with_reducible rfl);refine G ?_)
 refine aE N (λS o=>?_);go_simp;refine(a6 x7 (c.com (b,s) ao)).mono ?_;rintro e x8 ⟨rfl,d⟩;replace c:=O (c.below d);refine o _ _ ⟨c.blk (M,j,VG.t) ao,c.blk (M+1,f,VC.t) ao,c.blk (M+2,i,VC.t) ao⟩ λ_=>?_
 clear o d;refine G ?_;clear a6
 rcases rb with _|_
 ·repeat (first|refine fF ?_|refine aK ?_|(refine pO N ai ⟨c.blk (M,j,VG.t) ao,c.blk (M+1,f,VC.t) ao,c.blk (M+2,i,VC.t) ao⟩ (G ?_)))
  refine jQ ?_
  go_wp2_with fail
  go_ret;exact⟨N,c.bel⟩
 have aa:jb (cT (aP a)/\cT (aP b)):=O ⟨(FM ad.1 HI.1 (c.com (a,r) ao).plen (c.com (a,r) ao).clen).encOk,(FM ad.2 HI.2 (c.com (b,s) ao).plen (c.com (b,s) ao).clen).encOk⟩;iterate 3 refine aK ?_
 (refine aS (v:=ja f) N ai (λu n=>cM VC.hu VC.hd (by rw[F];exact VC.hi) N N n.2.1) ?_;refine G ?_)
 (refine aS (v:=ja i) N ai (λu n=>cM VC.hu VC.hd (by rw[H];exact VC.hi) N N n.2.2) ?_;refine G ?_)
 refine aE N (λS o=>?_);go_simp;refine((a1 x8 aa.1 aa.2 c.tab.s.dig).1 (c.com (a,r) ao)).mono ?_;rintro e x9 ⟨rfl,d⟩;replace c:=O (c.below d);refine o _ _ ⟨c.blk (M,j,VG.t) ao,c.blk (M+1,f,VC.t) ao,c.blk (M+2,i,VC.t) ao⟩ λ_=>?_
 clear o d;refine G ?_;refine aE N (λS o=>?_);go_simp;refine((a1 x9 aa.1 aa.2 c.tab.s.dig).2 (c.com (b,s) ao)).mono ?_;rintro e bg ⟨rfl,d⟩;replace c:=O (c.below d);refine o _ _ ⟨c.blk (M,j,VG.t) ao,c.blk (M+1,f,VC.t) ao,c.blk (M+2,i,VC.t) ao⟩ λ_=>?_
 clear o d;refine G ?_;clear a1;have l:=ba.out;refine fH ?_;clear l ba
 cases ei with
 |true=>
  repeat (first|refine fF ?_|refine aK ?_|(refine pO N ai ⟨c.blk (M,j,VG.t) ao,c.blk (M+1,f,VC.t) ao,c.blk (M+2,i,VC.t) ao⟩ (G ?_)))
  refine jQ ?_
  go_wp2_with fail
  go_ret;exact⟨N,c.bel⟩
 |false=>
  refine aK ?_;refine jQ ?_
  go_upto_region 5 with fail
  obtain⟨ea,l⟩:=J (cC g a);obtain⟨eb,D⟩:=J (cC g b);have E:jb (∀W,bH W g vm vt->bS W->(aT (·<W.heap.size) W a r->jr jn 9 #[ja j,ja f] W λe w'=>∃X m t,e=jt (jv #[ja X,jd je ea])/\NxA g a W w' e X m t)/\
   (aT (·<W.heap.size) W b s->jr jn 9 #[ja j,ja i] W λe w'=>∃X m t,e=jt (jv #[ja X,jd je eb])/\NxA g b W w' e X m t)):=O (λW h R=>by
    rw[z.1,z.2.1,z.2.2,l,D];have h1:=Q.1;have h2:=Q.2;exact⟨λhc=>(B3 g vm vt a r W h hc aa.1 R Y Y).mono λe w' ⟨X,m,t,h⟩=>⟨X,m,t,h.ret,h⟩,λhc=>(B3 g vm vt b s W h hc aa.2 R Y Y).mono λe w' ⟨X,m,t,h⟩=>⟨X,m,t,h.ret,h⟩⟩)
  have X:=O (And.intro l D);clear l D
  go_wp2_with (first|(refine VG.loadA ai N N j YP (c.blk (M,j,VG.t) ao) (G ?_))|(refine VC.loadA ai N N f F (c.blk (M+1,f,VC.t) ao) (G ?_))|(refine VC.loadA ai N N i H (c.blk (M+2,i,VC.t) ao) (G ?_)))
  refine((E bg (c.grp (g,vm,vt) ao) c.tab.s.dig).1 (c.com (a,r) ao)).mono ?_;rintro e bh ⟨XA,mA,tA,rfl,t⟩;have d:=t.bel;replace c:=O (c.below d);have l:=O t.ok;have bc:=O t.sz;have m:=O t.one;clear t d
  go_upto_region 6 with(first|(refine VG.made N N (G ?_))|(refine VG.first N N N XA N bc m (G ?_)))
  obtain⟨bi,NA,q,y,D,d⟩:=cX bh XA VG.t;rw[<-q,<-y];replace c:=O ((c.below d).block D);replace l:=O λh=>And.intro (l h).1 ((l h).2.below d)
  clear q y d D m
  go_wp2_with (first|(refine VG.loadA ai N N j YP (c.blk (M,j,VG.t) ao) (G ?_))|(refine VC.loadA ai N N f F (c.blk (M+1,f,VC.t) ao) (G ?_))|(refine VC.loadA ai N N i H (c.blk (M+2,i,VC.t) ao) (G ?_)))
  refine((E bi (c.grp (g,vm,vt) ao) c.tab.s.dig).2 (c.com (b,s) ao)).mono ?_;rintro e bk ⟨XB,mB,tB,rfl,t⟩;have d:=t.bel;replace c:=O (c.below d);replace l:=O λh=>And.intro (l h).1 ((l h).2.below d)
  have m:=O t.ok;have bd:=O t.sz;have a1:=O t.one;clear t d
  go_upto_region 7 with(first|(refine VG.made N N (G ?_))|(refine VG.first N N N XB N bd a1 (G ?_)))
  obtain⟨bf,NB,q,y,D,d⟩:=cX bk XB VG.t;rw[<-q,<-y];replace c:=O ((c.below d).block D);replace l:=O λh=>And.intro (l h).1 ((l h).2.below d)
  replace m:=O λh=>And.intro (m h).1 ((m h).2.below d)
  clear q y d D a1;clear E
  by_cases t:ea=0
  case neg=>
   have t1:(ea==0)=jp:=ak t;have t2:decide (ea=0)=jp:=ak t;have D:(ea !=0)=jg:=ak t;have E:(!decide (ea=0))=jg:=ak t;clear t
   go_wp2_with fail
   go_ret;exact⟨N,c.bel⟩
  subst t
  by_cases t:eb=0
  case neg=>
   have t1:(eb==0)=jp:=ak t;have t2:decide (eb=0)=jp:=ak t;have D:(eb !=0)=jg:=ak t;have E:(!decide (eb=0))=jg:=ak t;clear t
   go_wp2_with fail
   go_ret;exact⟨N,c.bel⟩
  subst t;have a2:jb (cC g a=0):=O X.1.symm;have a3:jb (cC g b=0):=O X.2.symm;replace l:=O (l a2);replace m:=O (m a3);clear X
  go_upto_region 9 with fail
  obtain⟨D,a5⟩:=J (dW g a.author);obtain⟨E,ZV⟩:=J (dW g b.author);have Y4:jb (∀W,bH W g vm vt->(jr jn 10 #[ja j,jd je au] W λe w'=>e=jt (jd je D)/\jm W W w')/\(jr jn 10 #[ja j,jd je B] W λe w'=>e=jt (jd je E)/\jm W W w')):=O (λW h=>by
   rw[z.1,K.1,K.2,a5,ZV];have X:g.mem.length<=jB:=jJ Q.1 L;exact⟨G9 g vm vt _ W h X,G9 g vm vt _ W h X⟩)
  obtain⟨X,C,a1⟩:∃X C:jh,(gT g a b/\X=0/\C=1)\/(gT g b a/\X=1/\C=0):=by
   by_cases h:gT g a b
   ·exact⟨0,1,.inl ⟨h,N,N⟩⟩
   exact⟨1,0,.inr ⟨(B6 (λe=>a4.out (by rw[K.1,K.2];exact e))).1 h,N,N⟩⟩
  have a6:a.author≠b.author:=λe=>a4.out (by rw[K.1,K.2];exact e)
  have ba:aG a≠aG b:=of_decide_eq_false UX.2.2.symm;have bb:jb (∀W v,bH W g vm vt->bS W->(cF W v [(a,r),(b,s)]->jr jn 11 #[ja j,v] W λe w'=>e=jt (jv #[jd je X,.bool jg])/\jm W W w')/\
   (cF W v [(b,s),(a,r)]->jr jn 11 #[ja j,v] W λe w'=>e=jt (jv #[jd je C,.bool jg])/\jm W W w')):=O (λW v hg R=>by
    rw[z.1];have n1:=Q.1;have n2:=Q.2;have ca:a.chg.length<=1000000:=jJ ad.1.nchg L;have cb:b.chg.length<=1000000:=jJ ad.2.nchg L;have wa:=IF ba a6 a2 a3 UX.1.symm UX.2.1.symm;have wb:=IF (λe=>ba e.symm) (λe=>a6 e.symm) a3 a2 UX.2.1.symm UX.1.symm;refine⟨λhl=>(AS _ v g vm vt W hl hg (λp x=>?_) R ao Y Y (λp x=>?_)).mono ?_,λhl=>(AS _ v g vm vt W hl hg (λp x=>?_) R ao Y Y (λp x=>?_)).mono ?_⟩
    any_goals (simp only[jK,jN,or_false]at x;rcases x with rfl|rfl<;>(first|exact aa.1|exact ca|exact aa.2|exact cb))
    ·rintro e w' ⟨rfl,h2⟩
     refine⟨?_,h2⟩
     rcases a1 with⟨h,rfl,rfl⟩|⟨h,rfl,rfl⟩
     ·simp only[jY,jI,wa.1 h];rfl
     simp only[jY,jI,wa.2 h];rfl
    rintro e w' ⟨rfl,h2⟩;refine⟨?_,h2⟩
    rcases a1 with⟨h,rfl,rfl⟩|⟨h,rfl,rfl⟩
    ·simp only[jY,jI,wb.2 h];rfl
    simp only[jY,jI,wb.1 h];rfl)
  have x:jb ((∀W,bH W (aB g a) mA tA->jr jn 12 #[ja XA,jd je B] W λe w'=>e=jt (.bool jp)/\jm W W w')/\
   ∀W,bH W (aB g b) mB tB->jr jn 12 #[ja XB,jd je au] W λe w'=>e=jt (.bool jp)/\jm W W w'):=O (by
    have p:=fW.1 a2;have R:=fW.1 a3;have r1:=C1 p UX.1.symm;have r2:=C1 R UX.2.1.symm;have s1:=(nN (gY p)).1;have s2:=(nN (gY R)).1;refine⟨λW h=>?_,λW h=>?_⟩
    ·have k:=Dw (aB g a) mA tA B W h (jJ s1 L)
     rw[<-l.1,show cD (aB g a).mem B=jp from by rw[K.2];exact r1]at k;exact k
    have k:=Dw (aB g b) mB tB au W h (jJ s2 L);rw[<-m.1,show cD (aB g b).mem au=jp from by rw[K.1];exact r2]at k;exact k)
  have hc:(decide (D<E)=jg/\X=0/\C=1)\/(decide (D<E)=jp/\(D==E)=jg/\decide (D=E)=jg/\decide (au<B)=jg/\X=0/\C=1)\/(decide (D<E)=jp/\(D==E)=jg/\decide (D=E)=jg/\decide (au<B)=jp/\X=1/\C=0)\/
   (decide (D<E)=jp/\(D==E)=jp/\decide (D=E)=jp/\X=1/\C=0):=by
   unfold gT at a1;rw[<-a5,<-ZV,<-K.1,<-K.2]at a1;have Zj:=a4.out;simp only[decide_eq_true_eq,decide_eq_false_iff_not,beq_iff_eq,beq_eq_false_iff_ne,ne_eq];omega
  have W:=O hc;clear hc a1 a5 ZV a6 ba;have d:=bX bf;obtain⟨p,q⟩:=J bf.drew;replace c:jb (SSt w _ _ _ p):=O (by rw[q];exact c.below d);replace l:jb (_ /\bH p _ _ _):=O (And.intro l.1 (by rw[q];exact l.2.below d));replace m:jb (_ /\bH p _ _ _):=O (And.intro m.1 (by rw[q];exact m.2.below d));have P:=O q;clear q d;refine j6 ?_;refine dj (λu=>u.heap[M]?=jc (jj j VG.t (0,0))/\u.heap[M+1]?=jc (jj f VC.t (0,0))/\u.heap[M+2]?=jc (jj i VC.t (0,0))) (.t 0 (.t 1 (.t 2 (.t 4 (.t 5 (.t 6 (.o 3 (.o 7 (.t 8 (.t 9 .done)))))))))) af af af L (λ_ _ _ _ h=>h) (by rw[<-P];exact⟨c.blk (M,j,VG.t) ao,c.blk (M+1,f,VC.t) ao,c.blk (M+2,i,VC.t) ao⟩) ?_;rw[<-P];clear P
  (refine aS (v:=ja j) N ai (λu n=>cM VG.hu VG.hd (by rw[YP];exact VG.hi) N N n.1) ?_;refine G ?_)
  refine aK ?_
  (refine aS (v:=?_) N ai (λu n=>?_) ?_;rotate_left;(have k:=ah n.2.1 ax;clear n;go_simp;with_reducible rfl);refine G ?_)
  (refine aS (v:=ja j) N ai (λu n=>cM VG.hu VG.hd (by rw[YP];exact VG.hi) N N n.1) ?_;refine G ?_)
  refine aK ?_
  (refine aS (v:=?_) N ai (λu n=>?_) ?_;rotate_left;(have k:=ah n.2.2 ay;clear n;go_simp;with_reducible rfl);refine G ?_)
  refine aE N (λS o=>?_);go_simp;refine((Y4 p (c.grp (g,vm,vt) ao)).1).mono ?_;rintro e a1 ⟨rfl,d⟩;replace c:=O (c.below d);replace l:=O (And.intro l.1 (l.2.below d));replace m:=O (And.intro m.1 (m.2.below d));refine o _ _ ⟨c.blk (M,j,VG.t) ao,c.blk (M+1,f,VC.t) ao,c.blk (M+2,i,VC.t) ao⟩ λ_=>?_
  clear o d;refine G ?_;refine aE N (λS o=>?_);go_simp;refine((Y4 a1 (c.grp (g,vm,vt) ao)).2).mono ?_;rintro e a5 ⟨rfl,d⟩;replace c:=O (c.below d);replace l:=O (And.intro l.1 (l.2.below d));replace m:=O (And.intro m.1 (m.2.below d));refine o _ _ ⟨c.blk (M,j,VG.t) ao,c.blk (M+1,f,VC.t) ao,c.blk (M+2,i,VC.t) ao⟩ λ_=>?_
  clear o d;refine G ?_;iterate 2 refine aK ?_
  clear Y4;refine jQ ?_
  go_upto_region 10 with fail
  have k:=ah (c.blk (M+1,f,VC.t) ao) ax;have n:=ah (c.blk (M+2,i,VC.t) ao) ay
  rcases W.out with⟨u,rfl,rfl⟩|⟨u,u1,u2,P,rfl,rfl⟩|⟨u,u1,u2,P,rfl,rfl⟩|⟨u,u1,u2,rfl,rfl⟩
  all_goals
   go_upto_region 11 with fail
   clear k n;try clear P;try clear u2;try clear u1;try clear u
   go_wp2_with (first|(refine VG.loadA ai N N j YP (c.blk (M,j,VG.t) ao) (G ?_))|(refine VC.loadA ai N N f F (c.blk (M+1,f,VC.t) ao) (G ?_))|(refine VC.loadA ai N N i H (c.blk (M+2,i,VC.t) ao) (G ?_))|(refine n0 N λ_ o=>RCm.wp_two _ _ N f i N N F H (o _ _ ?_);clear o;refine G ?_))
   obtain⟨R,a6,q,y,U,d⟩:=cX a5 (f.toList++i.toList).toArray RCm.e
   try simp only[<-q,<-y]
   replace c:=O (c.below d);replace l:=O (And.intro l.1 (l.2.below d));replace m:=O (And.intro m.1 (m.2.below d));have V:jb (cF R (jl (jc ⟨a6,0,ji⟩) 2 2) [(a,r),(b,s)]):=O (yD U z.2.1 z.2.2 (c.com (a,r) ao) (c.com (b,s) ao));clear q y d U;refine((bb R _ (c.grp (g,vm,vt) ao) c.tab.s.dig).1 V).mono ?_;rintro e ba ⟨rfl,d⟩;replace c:=O (c.below d);replace l:=O (And.intro l.1 (l.2.below d));replace m:=O (And.intro m.1 (m.2.below d));clear d V
   go_upto_region 12 with fail
   go_wp2_with (first|(refine VG.loadA ai N N j YP (c.blk (M,j,VG.t) ao) (G ?_))|(refine VC.loadA ai N N f F (c.blk (M+1,f,VC.t) ao) (G ?_))|(refine VC.loadA ai N N i H (c.blk (M+2,i,VC.t) ao) (G ?_))|(refine n0 N λ_ o=>RCm.wp_two _ _ N i f N N H F (o _ _ ?_);clear o;refine G ?_))
   obtain⟨S,bl,q,y,U,d⟩:=cX ba (i.toList++f.toList).toArray RCm.e
   try simp only[<-q,<-y]
   replace c:=O (c.below d);replace l:=O (And.intro l.1 (l.2.below d));replace m:=O (And.intro m.1 (m.2.below d));have V:jb (cF S (jl (jc ⟨bl,0,ji⟩) 2 2) [(b,s),(a,r)]):=O (yD U z.2.2 z.2.1 (c.com (b,s) ao) (c.com (a,r) ao));clear q y d U;refine((bb S _ (c.grp (g,vm,vt) ao) c.tab.s.dig).2 V).mono ?_;rintro e q ⟨rfl,d⟩;replace c:=O (c.below d);replace l:=O (And.intro l.1 (l.2.below d));replace m:=O (And.intro m.1 (m.2.below d));clear d V
   go_upto_region 13 with fail
   clear bb;have k:=ah (c.blk (M+1,f,VC.t) ao) ax;have n:=ah (c.blk (M+2,i,VC.t) ao) ay
   go_wp2_with (first|(refine VG.loadA ai N N XA bc (c.blk (NA,XA,VG.t) ao) (G ?_)))
   refine(x.1 q l.2).mono ?_;rintro e y ⟨rfl,d⟩;replace c:=O (c.below d);replace l:=O (And.intro l.1 (l.2.below d));replace m:=O (And.intro m.1 (m.2.below d));replace k:=aC k d;replace n:=aC n d;clear d
   go_wp2_with (first|(refine VG.loadA ai N N XB bd (c.blk (NB,XB,VG.t) ao) (G ?_)))
   refine(x.2 y m.2).mono ?_;rintro e U ⟨rfl,d⟩;replace c:=O (c.below d);clear d k n
   go_wp2_with fail
   go_ret;exact⟨N,c.bel⟩
end
section
open Go.RowKit Go.ChangeShapes Go.WideShapes Go.Deep
theorem mutual_w{H:Type}{enc:jF×jf->H}(c:jf)(h:DataW H)(i:jo MemPlace)(j:DataW.Trod enc jn w 0 (λ_=>jg) jg 29 c h i)(k:qn jn w .any b 29 c)
 (d:jf) (l:DataW H) (m:jo MemPlace) (n:DataW.Trod enc jn w 0 (λ_=>jg) jg 37 d l m) (o:qn jn w .any b 37 d)
 (f:jf) (p:DataW H) (q:jo MemPlace) (r:DataW.Trod enc jn w 0 (λ_=>jg) jg 37 f p q) (s:qn jn w .any b 37 f) (t:laidMetH jn sZ w):
 jr jn 3 #[c,d,f] w λe u=>e=.returned (.bool jg)/\jm w w u:=by
 obtain⟨g,vm,vt,rfl,v,F,K,W,-⟩:=Rb j k;obtain⟨a,x,rfl,y,z,B⟩:=EU n o;obtain⟨base,C,rfl,D,E,lb⟩:=EU r s;exact S6 g vm vt a x base C w v y D z E W B lb (Lo t)
end

end Go.Proofs.YtpmlopbaafjefaaGreatDoor
