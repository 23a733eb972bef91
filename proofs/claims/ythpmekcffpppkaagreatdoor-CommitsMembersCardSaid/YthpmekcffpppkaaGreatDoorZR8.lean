/- Texts of the proof, part 8 of 8 (Qf Nh Ni Nj Hx Nk Zza). -/
import Derived.Lib.LaidTab
import Derived.Test.YthpmekcffpppkaaGreatDoorRows
import Derived.Test.YthpmekcffpppkaaGreatDoorTie
import Derived.LaidMore
import Derived.Stop.LaidErr
import Derived.MakeChecks
import Derived.ProofKit
import Derived.Deep.SlicePairs
import Derived.Deep.Slices
import Derived.ChangeSlices
import Derived.ChangeArms
import Derived.OpenShut
import Derived.WideShapes
import Derived.Below
import Derived.Test.YthpmekcffpppkaaGreatDoorZR1
import Derived.Test.YthpmekcffpppkaaGreatDoorZR2
import Derived.Test.YthpmekcffpppkaaGreatDoorZR3
import Derived.Test.YthpmekcffpppkaaGreatDoorZR4
import Derived.Test.YthpmekcffpppkaaGreatDoorZR5
import Derived.Test.YthpmekcffpppkaaGreatDoorZR6
import Derived.Test.YthpmekcffpppkaaGreatDoorZR7
namespace Go.Proofs.YthpmekcffpppkaaGreatDoor
set_option maxHeartbeats 64000000
set_option maxRecDepth 100000
set_option linter.unusedVariables false
set_option linter.unusedSimpArgs false
open Go.RowKit
open Go.Proofs.Tryz
open Go.Value renaming int->ic
open Go.IntKind renaming i64->ih
open Go renaming undef->ii,Value->je,World->jg,DataW->jk,TypeId->jm,wpList_plain->jo,Calls->jp,MemPlace->jq,maxLen->jr,execOp->ju,below_setRow->jC,wp_region_lit->jD,wp_store_row->jE,setRow_other->jI,setRow_heap->jN,wpOp_step->jO,wp_region_noPanic->jX
open Go.Proofs.Tryz renaming prog->ja
open Go.RowKit renaming Hid->jb,Below->jl
open Go.Value renaming agg->jc,slice->ji,tuple->jt,pointer->jK
open _root_.Option renaming some->jd,none->jj,map_eq_some_iff->j9
open Go.Obj renaming cells->jf
open _root_.Nat renaming lt_of_lt_of_le->jh,le_refl->jF,le_of_eq->jP,le_trans->jQ,lt_irrefl->jZ
open Go.Proofs.Tryz renaming underlying3->jn,underlying37->jJ,underlying29->jR,underlying23->jY,underlying247->j4
open Go.Ending renaming returned->js
open Go.Proofs renaming intOf->jv
open _root_.List renaming drop_eq_getElem_cons->jw,getElem_toArray->jz,getElem_cons_zero->jA,getElem_cons_succ->jB,length_map->jG,range->jH,flatMap_cons->jL,mem_map->jU,take_append_drop->jW,getElem?_eq_none->j0,getElem?_eq_getElem->j1,drop_drop->j3,flatMap_nil->j6,size_toArray->j7,ext_getElem?->ki,getElem?_map->kl,mem_range->kn,drop_eq_nil_of_le->kw,drop_zero->lm
open Go.World renaming alloc_heap_new->jy,size_alloc->j8,cell?_spot->km
open Go.Value renaming int->jM,okWide->jV
open Go.NoPanic renaming normal->jS
open _root_.BitVec renaming ofNat->jT
open _root_.Array renaming getElem?_eq_some_iff->j5
def kb(b:BitVec 8):LBy:=b::List.replicate 31 0#8
theorem iU(b:BitVec 8):(kb b).length=32:=by simp[kb]
def kA(b:BitVec 8):Array je:=((kb b).map v8).toArray
def vN:je:=ji jj 0 0
def AG3:Array je:=(aA cB vN vN).toArray
def ZG0:Array je:=(aA eD vN vN).toArray
theorem Jk:(ja.info? 29).map (·.size)=jd AG3.size:=by kernel_rfl
theorem Jh(b:BitVec 8):(ja.info? 53).map (·.size)=jd (kA b).size:=by kernel_rfl
theorem Io:AG3.all (·.oneCell')=true:=by kernel_rfl
theorem JB{a:Act}{o:Oper}(b:o.op=.build 29 #[(0,.const (ic ih 3))])(W:jg):
 (ju a.eval o).run ja W=.ok (.value (jc AG3)) W:=by
 simp only[ju,b]
 kernel_rfl
theorem uF{a:Act}{o:Oper}(b:o.op=.build 29 #[])(W:jg):(ju a.eval o).run ja W=.ok (.value (jc ZG0)) W:=by
 simp only[ju,b]
 kernel_rfl
theorem Dy{a:Act}{o:Oper}(b:o.op=.build 37 #[])(W:jg):(ju a.eval o).run ja W=.ok (.value (jc ZC)) W:=by
 simp only[ju,b]
 kernel_rfl
theorem BR{a:Act}{o:Oper}(b:o.op=.build 53 #[])(W:jg):(ju a.eval o).run ja W=.ok (.value (jc (kA 0#8))) W:=by
 simp only[ju,b]
 kernel_rfl
theorem uN{a:Act}{o:Oper}(b:o.op=.build 53 #[(0,.const (ic .u8 1))])(W:jg):(ju a.eval o).run ja W=.ok (.value (jc (kA 1#8))) W:=by
 simp only[ju,b]
 kernel_rfl
theorem NE{a:Act}{o:Oper}(b:o.op=.build 53 #[(0,.const (ic .u8 2))])(W:jg):(ju a.eval o).run ja W=.ok (.value (jc (kA 2#8))) W:=by
 simp only[ju,b]
 kernel_rfl
theorem CU{a:Act}{o:Oper}(b:o.op=.build 53 #[(0,.const (ic .u8 3))])(W:jg):(ju a.eval o).run ja W=.ok (.value (jc (kA 3#8))) W:=by
 simp only[ju,b]
 kernel_rfl
theorem Oh:∀w:jg,(Instr.alloc 29 true (jt #[])).run ja w=.ok (jK (jd ⟨w,0,jj⟩)) (w.alloc (jf ZG0 29)):=λ_=>by kernel_rfl
theorem Jd:∀w:jg,(Instr.alloc 37 true (jt #[])).run ja w=.ok (jK (jd ⟨w,0,jj⟩)) (w.alloc (jf ZC 37)):=λ_=>by kernel_rfl
theorem Hv:∀w:jg,(Instr.alloc 53 true (jt #[])).run ja w=.ok (jK (jd ⟨w,0,jj⟩)) (w.alloc (jf (kA 0) 53)):=λ_=>by kernel_rfl
theorem yS:(fF cB (kb 1#8) (kb 2#8)).length=32:=uu _ _
theorem ot(w:jg)(g:Grp)(a:g.mem=[])(b:g.tree=[])(c:g.last.length=32):bQ w g vN vN:=by
 refine⟨by rw[a];exact⟨rfl,jj,0,rfl,jF _,λ_=>rfl,λh=>absurd h (jZ _)⟩,by rw[b];exact pN w,c⟩
theorem Mf(g:Grp)(p b:Option Addr)(n n' c d:Nat):(aA g (ji p n c) (ji b n' d)).toArray.all (·.oneCell')=true:=by
 rw[Array.all_eq_true_iff_forall_mem];intro e a;simp only[aA,List.mem_toArray,List.mem_cons,List.mem_append,List.mem_nil_iff,or_false]at a
 rcases a with rfl|rfl|a|rfl|rfl
 ·rfl
 ·rfl
 ·exact Bf _ _ a
 ·rfl
 rfl
theorem Kd{D:Nat->Prop}{w:jg}{c:Cmt}{q:CQ}(a:ay D w c q):(ah c q).toArray.all (·.oneCell')=true:=by
 obtain⟨b,d,e,f⟩:=q;obtain⟨⟨-,g,h,rfl,-⟩,⟨-,i,j,rfl,-⟩,⟨k,⟨-,l,m,rfl,-⟩,-⟩,⟨n,⟨-,o,p,rfl,-⟩,-⟩,-⟩:=a;exact lA _ _ _ _ _ _ _ _ _ _ _ _ _
theorem sI{D:Nat->Prop}{w:jg}{sz:Nat}:ap D w (ji jj 0 0) sz 0 []:=⟨by simp,jj,0,rfl,jF _,λ_=>rfl,λh=>absurd h (jZ _)⟩
theorem FA{D:Nat->Prop}{w:jg}:ay D w dP fk:=⟨sI,sI,⟨[],sI,rfl⟩,⟨[],sI,rfl⟩,rfl,rfl⟩
theorem FP:dx dP:=by
 refine⟨⟨?_,?_,?_,?_,?_⟩,rfl,rfl,⟨by decide,λx a=>by cases a⟩,⟨by decide,λx a=>by cases a⟩,⟨by decide,λx a=>by cases a⟩,⟨by decide,λx a=>by cases a⟩⟩<;>exact⟨by decide,by decide⟩
structure gz(w:jg):Prop where
 t:iF w
 s:fN w
theorem gz.below{w w':jg}(h:gz w)(a:jl w w w'):gz w':=⟨h.t.below a,h.s.below a⟩
abbrev ptr(g:Nat):je:=jK (jd ⟨g,0,jj⟩)
def lU(c:jm)(d:Array je)(e:jg)(b:Bool)(a:je)(W:jg):Prop:=
 (b=true->∃g,a=ptr g/\W.heap[g]?=jd (jf d c (0,0))/\e.heap.size<=g)/\(b=false->a=ii)
theorem lU.keep{a:jm}{c:Array je}{d W f:jg}{b:Bool}{i:je}(h:lU a c d b i W)(j:jl W W f):lU a c d b i f:=
 ⟨λe=>let⟨g,k,l,m⟩:=h.1 e;⟨g,k,av l j,m⟩,h.2⟩
theorem lU.ne{c:jm}{d:Array je}{f W:jg}{b:Bool}{a:je}(h:lU c d f b a W){g:Nat}(j:W.heap.size<=g):a≠ptr g:=by
 cases b with
 |true=>
  obtain⟨k,rfl,i,-⟩:=h.1 rfl;intro e;injection e with e
  injection e with e
  injection e with e
  have:=(j5.1 i).1;omega
 |false=>rw[h.2 rfl];intro e;cases e
def MF(b:jg)(e:Nat)(d m n o p r:Array je)(f h i k:Int)(c:Cmt)(l:Array je)(j:Nat)(s t:Bool)(a:Act)(W:jg):Prop:=
 ∃T2 T3 T23 T25 ZM Zd YA YB Yz Yy,a={tmps:=#[.bool false,ptr e,T2,T3,ii,ii,ii,ii,ii,ii,ii,ii,ii,ii,ii,ii,ii,ii,ii,ii,ii,ii,jc d,T23,jc d,T25,ZM,Zd,jc m,jc n,jc o,YA,YB,Yz,Yy,ii,ii,ii,ii,ii,ii,ii,ii,ii,ii,ii,ii,ii,ii,ii,ii,ii,ii,ii,ii,ii,ii,ii,ii,ii,ii,ii,ii,ii,ii,ii,ii,ii,ii,ii,ii,ii,ii,ii,ii,ii,ii,ii,ii,ii,ii,ii,ii,ii,ii,ii,ii,ii,ii,ii,ii,ii,ii,ii,ii,ii,ii,ii,ii,ii,ii,ii,ii,ii,ii,ii,ii,ii,ii,ii,ii,ii,ii,ii,ii,ii,ii,ii,ii,ii,ii,ii,ii,ii,ii,ii,ii,ii,ii,ii,ii,ii,ii,ii,ii,ii,ii,ii,ii,ii,ii,ii,ii,ii,ii,ii,ii,ii,ii,ii,ii,ii,ii,ii,ii,ii,ii,ii,ii,ii,ii,ii,ii,ii,ii,ii,ii,ii,ii,ii,ii,ii,ii,ii,ii,ii,ii,ii,ii,ii,ii,ii,ii,ii,ii],defers:=[]}/\jl b b W/\W.heap[e]?=jd (jf d 29 (0,0))/\
  (1<=j->T25=jc #[ic ih 1,ic ih 4,ic ih f,ic ih h,ic ih 0])/\(2<=j->ZM=jc #[ic ih 1,ic ih 7,ic ih i,ic ih k,ic ih 0])/\
  (j=3->ap (·<W.heap.size) W Zd 5 2 [ic ih 1,ic ih 4,ic ih f,ic ih h,ic ih 0,ic ih 1,ic ih 7,ic ih i,ic ih k,ic ih 0])/\
  (4<=j->∃(q:CQ) (D:Nat->Prop),(YA=jt #[jc (ah c q).toArray,jc l,ic ih 0]/\(5<=j->T23=YA)/\(6<=j->YB=jc (ah c q).toArray)/\(7<=j->Yz=jc l)/\(8<=j->Yy=ic ih 0))/\ay D W c q/\∀g,D g->b.heap.size<=g/\g<W.heap.size/\T2≠ptr g/\T3≠ptr g)/\
  lU 37 p b s T2 W/\lU 53 r b t T3 W
theorem Lp(w:jg)(hT:gz w):jp ja 4 #[] w λe w'=>e=js (.bool true)/\jl w w w':=by
 have HT:=O hT;have z:=jy w (jf ZG0 29);have U:=af w (jf ZG0 29);obtain⟨R,f⟩:=J AG3;obtain⟨s,d⟩:=J ZG0;have bw:=O f;have bk:=O d;have bg:jb ((ja.info? 29).map (·.size)=jd R.size):=O (by rw[f];exact Jk);have cf:jb (R.all (·.oneCell')=true):=O (by rw[f];exact Io);have bA:jb (s.size=R.size):=O (by rw[f,d];rfl);have bl:jb (∀w:jg,(Instr.alloc 29 true (jt #[])).run ja w=.ok (jK (jd ⟨w,0,jj⟩)) (w.alloc (jf s 29))):=O (by rw[d];exact Oh);rw[<-d]at z U;obtain⟨Qi,M⟩:=J w.heap.size;rw[<-M]at z;obtain⟨K1,B⟩:=J (kA 1#8);obtain⟨K2,K⟩:=J (kA 2#8);obtain⟨K3,D⟩:=J (kA 3#8);obtain⟨P,i⟩:=J (kA 0#8);obtain⟨u,j⟩:=J ZC;have SZ:=O B;have Rr:=O K;have SC:=O D;have bm:=O i;have bd:=O j;obtain⟨F,S⟩:∃y:Int,y=((aG 4 (1000+4):Nat):Int):=⟨_,rfl⟩;obtain⟨H,V⟩:∃y:Int,y=((aG 4 (100+4):Nat):Int):=⟨_,rfl⟩;obtain⟨p7,X⟩:∃y:Int,y=((aG 4 (1000+7):Nat):Int):=⟨_,rfl⟩;obtain⟨q7,aa⟩:∃y:Int,y=((aG 4 (100+7):Nat):Int):=⟨_,rfl⟩;have E:(cZ 4).cells=[ic ih 1,ic ih 4,ic ih F,ic ih H,ic ih 0]:=by rw[S,V];rfl
 have ba:(cZ 7).cells=[ic ih 1,ic ih 7,ic ih p7,ic ih q7,ic ih 0]:=by rw[X,aa];rfl
 have cj:jb (di.flatMap Chg.cells=[ic ih 1,ic ih 4,ic ih F,ic ih H,ic ih 0,ic ih 1,ic ih 7,ic ih p7,ic ih q7,ic ih 0]):=O (by unfold di;rw[jL,jL,j6,E,ba];rfl);have TG:jb (∀W:jg,jp ja 11 #[ic ih 4] W λe w'=>e=js (jc #[ic ih 1,ic ih 4,ic ih F,ic ih H,ic ih 0])/\jl W W w'):=O (λW=>by
  have h:=zg 4 L W;rw[E]at h;exact h)
 have Wq:jb (∀W:jg,jp ja 11 #[ic ih 7] W λe w'=>e=js (jc #[ic ih 1,ic ih 7,ic ih p7,ic ih q7,ic ih 0])/\jl W W w'):=O (λW=>by
  have h:=zg 7 L W;rw[ba]at h;exact h)
 obtain⟨Q,m⟩:=J (((fF cB (kb 1#8) (kb 2#8)).map v8).toArray);obtain⟨c,r⟩:=J c47;have bB:=O m;have bC:jb ((ja.info? 53).map (·.size)=jd Q.size):=O (by rw[m,j7,jG,yS];kernel_rfl);have ck:jb (P.size=Q.size):=O (by
  have a:((fF cB (kb 1#8) (kb 2#8)).map v8).toArray.size=32:=by rw[j7,jG,yS]
  rw[m,i,a]
  rfl)
 have cn:jb (Q.all (·.oneCell')=true):=O (by rw[m];exact dB _);have HC:=O r;have cp:jb (∀(W:jg) (q:CQ),gz W->ay (·<W.heap.size) W c q->jp ja 7 #[jc R,jc (ah c q).toArray] W λe w'=>
  (∃vm vt,e=js (jt #[jc (aA (bX cB c) vm vt).toArray,ic ih 0])/\bQ w' (bX cB c) vm vt)/\jl W W w'):=O (λW q ht x=>by
   rw[f];rw[r]at x⊢;refine(yi cB vN vN c47 q W (ot W cB rfl rfl rfl) x lP.encOk ht.s.dig L L).mono ?_;rintro e w' ⟨h1,-,b⟩;exact⟨h1 K8,b⟩)
 have n:∀(W:jg) (v:je),ap (·<W.heap.size) W v 5 1 [ic ih 1,ic ih 4,ic ih F,ic ih H,ic ih 0]->ap (·<W.heap.size) W v 5 [cZ 4].length ([cZ 4].flatMap Chg.cells):=λW v h=>by
  rw[jL,j6,E];exact h
 have cq:jb (∀(W:jg) (a:je),gz W->ap (·<W.heap.size) W a 5 1 [ic ih 1,ic ih 4,ic ih F,ic ih H,ic ih 0]->
  jp ja 10 #[jc s,ic ih 3,ic ih 103,a,jc K1,jc P,jc K3] W λe w'=>e=js (jt #[jc u,jc P,ic ih 221])/\jl W W w'):=O (λW a ht l=>by
   rw[d,B,D,i,j];refine(Eb eD vN vN a 3 103 [cZ 4] (kb 1#8) (kb 0#8) (kb 3#8) W (ot W eD rfl rfl L) (n W a l) (iU _) (iU _) (iU _) ht.t ht.s L L L).mono ?_;rintro e w' ⟨-,h2,b⟩;have g:=h2 (by rw[DR];decide);rw[DR]at g;exact⟨g,b⟩)
 have Td:jb (∀(W:jg),jp ja 12 #[jc s,ic ih 0,ji jj 0 0] W λe w'=>(∃au,e=js (jt #[au,ic ih 221]))/\jl W W w'):=O (λW=>by
  rw[d];refine(tj eD vN vN (ji jj 0 0) 0 [] W (ot W eD rfl rfl L) ⟨rfl,jj,0,rfl,jF _,λ_=>rfl,λh=>absurd h (jZ _)⟩ L L L).mono ?_;rintro e w' ⟨au,h1,-,b⟩;rw[IW]at h1;exact⟨⟨au,h1⟩,b⟩)
 have cs:jb (∀(W:jg) (a:je),ap (·<W.heap.size) W a 5 1 [ic ih 1,ic ih 4,ic ih F,ic ih H,ic ih 0]->jp ja 12 #[jc R,ic ih 4,a] W λe w'=>(∃p k,e=js (jt #[ji p 0 k,ic ih 0]))/\jl W W w'):=O (λW a l=>by
  rw[f];refine(tj cB vN vN a 4 [cZ 4] W (ot W cB rfl rfl rfl) (n W a l).row L L L).mono ?_;rintro e w' ⟨au,h1,h2,b⟩;rw[BP]at h1;rw[Gb]at h2;obtain⟨p,k,rfl⟩:=aO h2;exact⟨⟨p,k,h1⟩,b⟩)
 have cu:jb (∀(W:jg),gz W->jp ja 15 #[jc K1] W λe w'=>∃v,e=js v/\w'.ownsRow W 53 32 v 10 (fA (fj (kb 1#8) 10))/\jl W W w'):=O (λW ht=>by
  rw[B];exact AA (kb 1#8) (iU _) W ht.s.dig)
 clear n;have Zv:jb (∀(W:jg),gz W->jp ja 7 #[jc s,jc u] W λe w'=>e=js (jt #[jc s,ic ih 220])/\jl W W w'):=O (λW ht=>by
  rw[d,j];refine(yi eD vN vN dP fk W (ot W eD rfl rfl L) FA FP.encOk ht.s.dig L L).mono ?_;rintro e w' ⟨-,h2,b⟩;have g:=h2 (by rw[Du];decide);rw[Du]at g;exact⟨g,b⟩)
 obtain⟨t,C⟩:=J (enc (vL (aB c47)));have ew:=O C;have cv:jb (∀(W:jg) (q:CQ),ay (·<W.heap.size) W c q->jp ja 13 #[jc (ah c q).toArray] W λe w'=>(∃v,e=js (jt #[v,ic ih 0])/\w'.ownsRow W 5 1 v t.length (t.map v8))/\jl W W w'):=O (λW q x=>by
  rw[r]at x⊢;rw[C];refine(Fx c47 q W x lP.encOk).mono ?_;rintro e w' ⟨h1,-,b⟩;exact⟨h1 na.chk,b⟩)
 have cw:jb (∀(W:jg) (p:Option Addr) (n k:Nat),ap (·<W.heap.size) W (ji p n k) 1 t.length (t.map v8)->jp ja 14 #[ji p n k] W λe w'=>(∃q,e=js (jt #[jc (ah c q).toArray,ic ih 0])/\ay (λg=>W.heap.size<=g/\g<w'.heap.size) w' c q)/\jl W W w'):=O (λW p n k l=>by
  refine(PI t p n k W l (by rw[C];exact lP.encOk.len)).mono ?_;rw[C,NR,<-r];rintro e w' ⟨h1,h2⟩;exact⟨h2,h1⟩)
 clear C;have bs:jb (∀(W:jg) (a:je),gz W->ap (·<W.heap.size) W a 5 2 [ic ih 1,ic ih 4,ic ih F,ic ih H,ic ih 0,ic ih 1,ic ih 7,ic ih p7,ic ih q7,ic ih 0]->
  jp ja 10 #[jc R,ic ih 4,ic ih 104,a,jc K1,jc K2,jc K3] W λe w'=>(∃q,e=js (jt #[jc (ah c q).toArray,jc Q,ic ih 0])/\ay (λk=>W.heap.size<=k/\k<w'.heap.size) w' c q)/\jl W W w'):=O (λW a ht l=>by
   rw[f,B,K,D,m,r];refine(Eb cB vN vN a 4 104 di (kb 1#8) (kb 2#8) (kb 3#8) W (ot W cB rfl rfl rfl) (by rw[cj];exact l) (iU _) (iU _) (iU _) ht.t ht.s L L L).mono ?_;rintro e w' ⟨h1,-,b⟩;exact⟨h1 Ku,b⟩)
 have cx:jb ((ja.info? 29).map (·.size)=jd s.size):=O (by rw[d];kernel_rfl);have cy:jb (s.all (·.oneCell')=true):=O (by rw[d];kernel_rfl);have cz:jb ((ja.info? 37).map (·.size)=jd u.size):=O (by rw[j];exact mq);have cA:jb (u.all (·.oneCell')=true):=O (by rw[j];exact rh);have cL:jb ((ja.info? 53).map (·.size)=jd P.size):=O (by rw[i];exact Jh _);have cX:jb (P.all (·.oneCell')=true):=O (by rw[i];exact dB _);have bn:jb (∀w:jg,(Instr.alloc 37 true (jt #[])).run ja w=.ok (jK (jd ⟨w,0,jj⟩)) (w.alloc (jf u 37))):=O (by rw[j];exact Jd);have bI:jb (∀w:jg,(Instr.alloc 53 true (jt #[])).run ja w=.ok (jK (jd ⟨w,0,jj⟩)) (w.alloc (jf P 53))):=O (by rw[i];exact Hv);clear B K D i j S V X aa E ba m r;have Sb:=O z;have HG:=O M;have S3:jb (((w.alloc (jf s 29)).setRow Qi R).heap[Qi]?=jd (jf R 29 (0,0))):=O (jN _ _ _ _ _ _ z);have X:jb (jl w w ((w.alloc (jf s 29)).setRow Qi R)):=O (jC U (jP M.symm) R);clear hT z U f d M
 go_enter func4,ntmps4
 go_upto_region 1 with fail
 refine jD ?_;refine bz (v:=jc R) ag (by rw[bw];exact JB rfl _) ?_;refine G ?_;refine jo rfl λ_ l=>dW 29 rfl s bl (l _ _ ?_)
 clear l;refine G ?_;rw[<-HG];refine jo rfl λ_ l=>jE 29 _ _ rfl Qi R rfl rfl 29 s Sb bg bA cf (l _ _ ?_)
 clear l Sb;refine G ?_;generalize(w.alloc (jf s 29)).setRow Qi R=x1 at S3 X⊢
 go_upto_region 2 with fail
 have a2:x1.drew.heap[Qi]?=jd (jf R 29 (0,0)):=S3.out;refine jX ?_;refine Hi (λm=>m.heap[Qi]?=jd (jf R 29 (0,0))) [0,4,5,6] [(1,false),(2,false),(3,false),(7,false),(8,true),(9,true),(10,true),(11,true)] 12 13 (.one 14 (.one 15 (.take 16 .done))) (MF x1.drew Qi R K1 K2 K3 u P F H p7 q7 c Q) ae ae ae ae ae L (λ_ _ _ _ h=>h) a2 ?hI ?hT ?hC ?h1 ?h2 ?hE ?h0
 case hI=>
  rintro j K b2 a W ⟨T2,T3,T23,T25,ZM,Zd,YA,YB,Yz,Yy,rfl,B,f,-⟩;exact f
 case h1=>
  rintro j b2 a W ⟨T2,T3,T23,T25,ZM,Zd,YA,YB,Yz,Yy,rfl,B,f,aa,ad,C,al,V,Tx⟩;refine jO (o:=_) rfl (λK' l=>?_);rw[if_pos ag];refine dW 37 rfl u bn ?_;have d:=af W (jf u 37);refine l _ _ ⟨ptr W.heap.size,T3,T23,T25,ZM,Zd,YA,YB,Yz,Yy,rfl,B.trans (d.mono B.size),av f d,aa,ad,?_,?_,⟨λ_=>⟨_,rfl,jy _ _,B.size⟩,λh=>(by cases h)⟩,Tx.keep d⟩
  ·exact λe=>((C e).keep λg f=>d.block g f).mono λg f=>jh f d.size
  intro e;obtain⟨q,D,z,x,E⟩:=al e;exact⟨q,D,z,x.keep λg f=>d.block g (E g f).2.1,λg f=>⟨(E g f).1,jh (E g f).2.1 d.size,(λe=>by injection e with e;injection e with e;injection e with e;have:=(E g f).2.1;omega),(E g f).2.2.2⟩⟩
 case h2=>
  rintro j K a W ⟨T2,T3,T23,T25,ZM,Zd,YA,YB,Yz,Yy,rfl,B,f,aa,ad,C,al,V,Tx⟩;refine jO (o:=_) rfl (λK' l=>?_);rw[if_pos ag];refine dW 53 rfl P bI ?_;have d:=af W (jf P 53);refine l _ _ ⟨T2,ptr W.heap.size,T23,T25,ZM,Zd,YA,YB,Yz,Yy,rfl,B.trans (d.mono B.size),av f d,aa,ad,?_,?_,V.keep d,⟨λ_=>⟨_,rfl,jy _ _,B.size⟩,λh=>(by cases h)⟩⟩
  ·exact λe=>((C e).keep λg f=>d.block g f).mono λg f=>jh f d.size
  intro e;obtain⟨q,D,z,x,E⟩:=al e;exact⟨q,D,z,x.keep λg f=>d.block g (E g f).2.1,λg f=>⟨(E g f).1,jh (E g f).2.1 d.size,(E g f).2.2.1,(λe=>by injection e with e;injection e with e;injection e with e;have:=(E g f).2.1;omega)⟩⟩
 case h0=>
  (refine ti (v:=jc R) rfl ag (λm r=>aY jR rfl bg rfl rfl r) ?_;refine G ?_)
  (refine ti (v:=jc K1) rfl ag (λm r=>by rw[SZ];exact uN rfl _) ?_;refine G ?_)
  (refine ti (v:=jc K2) rfl ag (λm r=>by rw[Rr];exact NE rfl _) ?_;refine G ?_)
  (refine ti (v:=jc K3) rfl ag (λm r=>by rw[SC];exact CU rfl _) ?_;refine G ?_)
  exact⟨ii,ii,ii,ii,ii,ii,ii,ii,ii,ii,rfl,Below.refl _ _,a2,λh=>absurd h L,λh=>absurd h L,λh=>absurd h L,λh=>absurd h L,⟨λh=>(by cases h),λ_=>rfl⟩,⟨λh=>(by cases h),λ_=>rfl⟩⟩
 case hT=>
  rintro j i b K b2 a W ⟨T2,T3,T23,T25,ZM,Zd,YA,YB,Yz,Yy,rfl,B,f,aa,ad,C,al,V,Tx⟩
  rcases j with _ |_ |_ |_ |_ |_ |_ |_ |j
  iterate 4 (·simp at b)
  ·obtain rfl:i=8:=by simpa using b.symm
   obtain⟨q,D,z,x,E⟩:=al Y;refine⟨_,YA,rfl,.inl ⟨by rfl,λm r=>.inl (by go_simp;try with_reducible rfl)⟩,?_⟩;exact⟨T2,T3,YA,T25,ZM,Zd,YA,YB,Yz,Yy,rfl,B,f,λ_=>aa Y,λ_=>ad Y,λe=>absurd e Y,λ_=>⟨q,D,⟨z.1,λ_=>rfl,(λh=>absurd h Y),(λh=>absurd h Y),(λh=>absurd h Y)⟩,x,E⟩,V,Tx⟩
  ·obtain rfl:i=9:=by simpa using b.symm
   obtain⟨q,D,z,x,E⟩:=al Y;obtain⟨rfl,a3,U7,bf,bh⟩:=z;obtain rfl:=a3 Y;refine⟨_,jc (ah c q).toArray,rfl,.inl ⟨by rfl,λm r=>.inl (by go_simp;try with_reducible rfl)⟩,?_⟩;exact⟨T2,T3,_,T25,ZM,Zd,_,_,Yz,Yy,rfl,B,f,λ_=>aa Y,λ_=>ad Y,λe=>absurd e Y,λ_=>⟨q,D,⟨rfl,λ_=>rfl,λ_=>rfl,(λh=>absurd h Y),(λh=>absurd h Y)⟩,x,E⟩,V,Tx⟩
  ·obtain rfl:i=10:=by simpa using b.symm
   obtain⟨q,D,z,x,E⟩:=al Y;obtain⟨rfl,a3,U7,bf,bh⟩:=z;obtain rfl:=a3 Y;refine⟨_,jc Q,rfl,.inl ⟨by rfl,λm r=>.inl (by go_simp;try with_reducible rfl)⟩,?_⟩;exact⟨T2,T3,_,T25,ZM,Zd,_,YB,_,Yy,rfl,B,f,λ_=>aa Y,λ_=>ad Y,λe=>absurd e Y,λ_=>⟨q,D,⟨rfl,λ_=>rfl,λ_=>U7 Y,λ_=>rfl,(λh=>absurd h Y)⟩,x,E⟩,V,Tx⟩
  ·obtain rfl:i=11:=by simpa using b.symm
   obtain⟨q,D,z,x,E⟩:=al Y;obtain⟨rfl,a3,U7,bf,bh⟩:=z;obtain rfl:=a3 Y;refine⟨_,ic ih 0,rfl,.inl ⟨by rfl,λm r=>.inl (by go_simp;try with_reducible rfl)⟩,?_⟩;exact⟨T2,T3,_,T25,ZM,Zd,_,YB,Yz,_,rfl,B,f,λ_=>aa Y,λ_=>ad Y,λe=>absurd e Y,λ_=>⟨q,D,⟨rfl,λ_=>rfl,λ_=>U7 Y,λ_=>bf Y,λ_=>rfl⟩,x,E⟩,V,Tx⟩
  simp at b
 case hC=>
  rintro j i b K b2 a W ⟨T2,T3,T23,T25,ZM,Zd,YA,YB,Yz,Yy,rfl,B,f,aa,ad,C,al,V,Tx⟩;have a1:jl w w x1.drew:=X.trans ((aP x1).mono X.size)
  rcases j with _ |_ |_ |_ |_ |_ |_ |_ |j
  ·obtain rfl:i=1:=by simpa using b.symm
   refine jO (o:=_) rfl (λK' l=>?_);go_simp;refine(TG W).mono ?_;rintro e m ⟨rfl,d⟩;exact l _ _ ⟨T2,T3,T23,_,ZM,Zd,YA,YB,Yz,Yy,rfl,B.trans (d.mono B.size),av f d,λ_=>rfl,(λh=>absurd h Y),λe=>absurd e Y,λe=>absurd e Y,V.keep d,Tx.keep d⟩
  ·obtain rfl:i=2:=by simpa using b.symm
   refine jO (o:=_) rfl (λK' l=>?_);go_simp;refine(Wq W).mono ?_;rintro e m ⟨rfl,d⟩;exact l _ _ ⟨T2,T3,T23,_,_,Zd,YA,YB,Yz,Yy,rfl,B.trans (d.mono B.size),av f d,λ_=>rfl,λ_=>rfl,λe=>absurd e Y,λe=>absurd e Y,V.keep d,Tx.keep d⟩
  ·obtain rfl:i=3:=by simpa using b.symm
   obtain rfl:=aa Y;obtain rfl:=ad Y;have d:=af W (jf #[ic ih 1,ic ih 4,ic ih F,ic ih H,ic ih 0,ic ih 1,ic ih 7,ic ih p7,ic ih q7,ic ih 0] 49);have Qx:=iL W [ic ih 1,ic ih 4,ic ih F,ic ih H,ic ih 0,ic ih 1,ic ih 7,ic ih p7,ic ih q7,ic ih 0] 49 5 2 W.heap.size (jF _) rfl L;have S:=ap.of_own (D:=(·<(W.alloc (jf #[ic ih 1,ic ih 4,ic ih F,ic ih H,ic ih 0,ic ih 1,ic ih 7,ic ih p7,ic ih q7,ic ih 0] 49)).heap.size)) Qx (λg f=>(Qx.lt g f).2);refine jO (o:=_) rfl (λK' l=>?_);go_simp;exact l _ _ ⟨T2,T3,T23,_,_,_,YA,YB,Yz,Yy,rfl,B.trans (d.mono B.size),av f d,λ_=>rfl,λ_=>rfl,λ_=>S,λe=>absurd e Y,V.keep d,Tx.keep d⟩
  ·obtain rfl:i=7:=by simpa using b.symm
   obtain⟨pl,nl,z⟩:=(C Y).form;have a4:=C Y;subst z;refine jO (o:=_) rfl (λK' l=>?_);go_simp;refine(bs W _ (HT.below (a1.trans (B.mono a1.size))) a4).mono ?_;rintro e m ⟨⟨q,rfl,x⟩,d⟩;exact l _ _ ⟨T2,T3,T23,_,_,_,_,YB,Yz,Yy,rfl,B.trans (d.mono B.size),av f d,λ_=>rfl,λ_=>rfl,λe=>absurd e Y,λ_=>⟨q,_,⟨rfl,(λh=>absurd h Y),(λh=>absurd h Y),(λh=>absurd h Y),(λh=>absurd h Y)⟩,x,λg f=>⟨jQ B.size f.1,f.2,V.ne f.1,Tx.ne f.1⟩⟩,V.keep d,Tx.keep d⟩
  iterate 5 (·simp at b)
 rintro a W ⟨T2,T3,T23,T25,ZM,Zd,YA,YB,Yz,Yy,rfl,B,f,aa,ad,-,al,V,Tx⟩;obtain⟨q,D,⟨rfl,a3,U7,bf,bh⟩,x,E⟩:=al L;obtain rfl:=a3 L;obtain rfl:=U7 L;obtain rfl:=bf L;obtain rfl:=bh L;obtain rfl:=aa L;obtain rfl:=ad L;obtain⟨C,rfl,hC,bu⟩:=V.1 rfl;obtain⟨K,rfl,l,bv⟩:=Tx.1 rfl;have a4:C≠K:=by
  rintro rfl;rw[hC]at l;simp at l
 obtain⟨i,b⟩:=J ((ah c q).toArray);have a5:i.size=73:=by rw[b];exact fZ c q x.plen x.clen
 have bc:i.all (·.oneCell')=true:=by
  rw[b];obtain⟨z,vp,vb,vw⟩:=q;obtain⟨⟨-,p1,n1,rfl,-⟩,⟨-,p2,n2,rfl,-⟩,⟨us,⟨-,p3,n3,rfl,-⟩,-⟩,⟨vs,⟨-,F,n4,rfl,-⟩,-⟩,-⟩:=x;exact lA _ _ _ _ _ _ _ _ _ _ _ _ _
 have bo:(ja.info? 37).map (·.size)=jd i.size:=by rw[a5];exact fa
 have a1:jl w w x1.drew:=X.trans ((aP x1).mono X.size);have M:Qi<x1.drew.heap.size:=(j5.1 a2).1;rw[<-b];have QD:=O (jN W C _ i _ _ hC);have bq:=(jI W C K i (Ne.symm a4)).trans l;have br:=(jI W C Qi i Y).trans f;have d:=jC (a1.trans (B.mono a1.size)) (jQ a1.size bu) i;have QE:=O ((jI (W.setRow C i) K C Q a4).trans QD);have Rr:=O (jN (W.setRow C i) K _ Q _ _ bq);have z:=O ((jI (W.setRow C i) K Qi Q Y).trans br);have Qk:=O (jC d (jQ a1.size bv) Q);have bK:((W.setRow C i).setRow K Q).heap.size=W.heap.size:=by simp[World.setRow]
 have bb:jb (ay (λg=>w.heap.size<=g/\g<((W.setRow C i).setRow K Q).heap.size) ((W.setRow C i).setRow K Q) c q):=O ((x.keep λg f=>(jI _ K g Q (λe=>(E g f).2.2.2 (by rw[e]))).trans (jI W C g i (λe=>(E g f).2.2.1 (by rw[e])))).mono λg f=>⟨jQ a1.size (E g f).1,by rw[bK];exact(E g f).2.1⟩);refine ai rfl (λK' Ui=>?_);rw[if_pos ag];refine jE 37 _ _ rfl C i rfl rfl 37 u hC bo (by rw[bd,a5];exact nP) bc ?_;refine Ui _ _ br λ_=>?_
 clear Ui;refine G ?_;refine ai rfl (λK' Ui=>?_);rw[if_pos ag];refine jE 53 _ _ rfl K Q rfl rfl 53 P bq bC ck cn ?_;refine Ui _ _ z.out λ_=>?_
 clear Ui;refine G ?_;have ZW:=O bo;have QI:=O bc;have RV:=O a5;have Uw:=O b;have e0:jb (Qi<C/\Qi<K/\C≠K):=O ⟨by omega,by omega,a4⟩;generalize(W.setRow C i).setRow K Q=x2 at QE Rr z Qk bb⊢;clear hC l bu bv B f aa ad al V Tx x E a4 b a5 bc bo a1 a2 M bq br d bK QD X S3 bs Wq;refine aS ?_;refine jS ?_
 go_upto_region 3 with fail
 refine jD ?_;refine bz (v:=jc R) ag (aY jR rfl bg rfl rfl z) ?_;refine G ?_;refine bz (v:=jc i) ag (aY jJ rfl ZW rfl rfl QE) ?_;refine G ?_;have b:=cp x2 q (HT.below Qk) (bb.mono λg f=>f.2);rw[<-Uw]at b;refine jo rfl λ_ l=>?_
 go_simp;refine(b).mono ?_;rintro e x3 ⟨⟨vm,vt,rfl,M⟩,d⟩;have QW:=Z QE d;have SC:=Z Rr d;have TU:=Z z d;have Qp:=ac Qk d;have a4:jb (ay (λg=>w.heap.size<=g/\g<x3.heap.size) x3 c q):=O ((bb.keep λg f=>d.block g f.2).mono λg f=>⟨f.1,jh f.2 d.size⟩);clear d QE Rr z Qk bb;have a2:=O M;clear b M;refine l _ _ ?_;clear l;refine G ?_;obtain⟨pm,nm,cm,rfl⟩:∃p n k,vm=ji p n k:=by
  obtain⟨-,p,k,e,-⟩:=a2.mem;exact⟨p,_,k,e⟩
 obtain⟨pt,nt,ct,rfl⟩:=gE a2.tree;obtain⟨AX,b⟩:=J ((aA (bX cB c) (ji pm nm cm) (ji pt nt ct)).toArray);rw[<-b];have c5:jb ((ja.info? 29).map (·.size)=jd AX.size):=O (by rw[b];exact kI a2.llen);have c6:jb (AX.all (·.oneCell')=true):=O (by rw[b];exact Mf _ _ _ _ _ _ _);have c7:jb (s.size=AX.size):=O (by rw[b,(kr _ _ _ a2.llen).2.2,bA,bw];rfl);have bK:=O b;clear b;iterate 3 refine aL ?_
 have b:=jy x3 (jf s 29);obtain⟨X,f⟩:=J x3.heap.size;rw[<-f]at b;have d:=jC (af x3 (jf s 29)) (jP f.symm) AX;have z:=jN (x3.alloc (jf s 29)) X _ AX _ _ b;refine jo rfl λ_ l=>dW 29 rfl s bl (l _ _ ?_)
 clear l;rw[<-f];refine G ?_;refine jo rfl λ_ l=>jE 29 _ _ rfl X AX rfl rfl 29 s b c5 c7 c6 (l _ _ ?_)
 clear l b f;refine G ?_;obtain⟨x4,M⟩:=J ((x3.alloc (jf s 29)).setRow X AX);rw[<-M]at d z⊢;clear M;have RG:=Z QW d;have a5:=Z SC d;have V9:=Z TU d;have Qt:=ac Qp d;have bb:jb (ay (λg=>w.heap.size<=g/\g<x4.heap.size) x4 c q):=O ((a4.keep λg f=>d.block g f.2).mono λg f=>⟨f.1,jh f.2 d.size⟩);have bc:=O (a2.below d);clear d QW SC TU Qp a4 a2;have Yt:=O z;clear z;refine aL ?_
 go_upto_region 4 with fail
 refine jD ?_;refine bz (v:=jc s) ag (by rw[bk];exact uF rfl _) ?_;refine G ?_;refine jo rfl λ_ l=>?_
 go_simp;refine(TG x4).mono ?_;rintro e x5 ⟨rfl,d⟩;have Vv:=Z RG d;have a2:=Z a5 d;have QO:=Z V9 d;have Qy:=ac Qt d;have a4:jb (ay (λg=>w.heap.size<=g/\g<x5.heap.size) x5 c q):=O ((bb.keep λg f=>d.block g f.2).mono λg f=>⟨f.1,jh f.2 d.size⟩);have bo:=O (bc.below d);have UB:=Z Yt d;clear d RG a5 V9 Qt bb bc Yt;refine l _ _ ?_;clear l;refine G ?_;have d:=af x5 (jf #[ic ih 1,ic ih 4,ic ih F,ic ih H,ic ih 0] 49);have Qx:=iL x5 [ic ih 1,ic ih 4,ic ih F,ic ih H,ic ih 0] 49 5 1 x5.heap.size (jF _) rfl L;have S:ap (·<(x5.alloc (jf #[ic ih 1,ic ih 4,ic ih F,ic ih H,ic ih 0] 49)).heap.size) (x5.alloc (jf #[ic ih 1,ic ih 4,ic ih F,ic ih H,ic ih 0] 49)) (ji (jd ⟨x5,0,jj⟩) 1 1) 5 1 [ic ih 1,ic ih 4,ic ih F,ic ih H,ic ih 0]:=ap.of_own Qx (λg f=>(Qx.lt g f).2);refine jo rfl λ_ l=>?_
 go_simp;refine l _ _ ?_;clear l Qx;refine G ?_;obtain⟨x6,M⟩:=J (x5.alloc (jf #[ic ih 1,ic ih 4,ic ih F,ic ih H,ic ih 0] 49));obtain⟨e1,f⟩:=J x5.heap.size;rw[<-M]at d S⊢;rw[<-f]at S⊢;clear M f;have a5:=Z Vv d;have bb:=Z a2 d;have S0:=Z QO d;have RA:=ac Qy d;have bc:jb (ay (λg=>w.heap.size<=g/\g<x6.heap.size) x6 c q):=O ((a4.keep λg f=>d.block g f.2).mono λg f=>⟨f.1,jh f.2 d.size⟩);have bq:=O (bo.below d);have Ve:=Z UB d;clear d Vv a2 QO Qy a4 bo UB;have c8:=O S;clear S;refine bz (v:=jc K1) ag (by rw[SZ];exact uN rfl _) ?_;refine G ?_;refine bz (v:=jc P) ag (by rw[bm];exact BR rfl _) ?_;refine G ?_;refine bz (v:=jc K3) ag (by rw[SC];exact CU rfl _) ?_;refine G ?_;refine jo rfl λ_ l=>?_
 go_simp;refine(cq x6 _ (HT.below RA) c8).mono ?_;rintro e x7 ⟨rfl,d⟩;have VQ:=Z a5 d;have bo:=Z bb d;have WY:=Z S0 d;have SU:=ac RA d;have Y6:jb (ay (λg=>w.heap.size<=g/\g<x7.heap.size) x7 c q):=O ((bc.keep λg f=>d.block g f.2).mono λg f=>⟨f.1,jh f.2 d.size⟩);have br:=O (bq.below d);have VR:=Z Ve d;clear d a5 bb S0 RA bc bq Ve;refine l _ _ ?_;clear l;refine G ?_;iterate 4 refine aL ?_
 have a2:=jy x7 (jf u 37);have U:=af x7 (jf u 37);have a4:=jy (x7.alloc (jf u 37)) (jf P 53);have a5:=af (x7.alloc (jf u 37)) (jf P 53);replace a2:=av a2 a5;rw[j8]at a4;obtain⟨N1,f⟩:=J x7.heap.size;rw[<-f]at a2 a4;have bb:=(jI ((x7.alloc (jf u 37)).alloc (jf P 53)) N1 (N1+1) u Y).trans a4;have d:=jC (jC (U.trans (a5.mono U.size)) (jP f.symm) u) (show x7.heap.size<=N1+1 by omega) P;refine jo rfl λ_ l=>dW 37 rfl u bn (l _ _ ?_)
 clear l;refine G ?_;refine jo rfl λ_ l=>dW 53 rfl P bI (l _ _ ?_)
 clear l;rw[j8,<-f];refine G ?_;refine jo rfl λ_ l=>jE 37 _ _ rfl N1 u rfl rfl 37 u a2 cz rfl cA (l _ _ ?_)
 clear l;refine G ?_;refine jo rfl λ_ l=>jE 53 _ _ rfl (N1+1) P rfl rfl 53 P bb cL rfl cX (l _ _ ?_)
 clear l a2 a4 bb U a5 f;refine G ?_;generalize(((x7.alloc (jf u 37)).alloc (jf P 53)).setRow N1 u).setRow (N1+1) P=x8 at d⊢;have TZ:=Z VQ d;have a2:=Z bo d;have a4:=Z WY d;have Rn:=ac SU d;have Wo:jb (ay (λg=>w.heap.size<=g/\g<x8.heap.size) x8 c q):=O ((Y6.keep λg f=>d.block g f.2).mono λg f=>⟨f.1,jh f.2 d.size⟩);have Ym:=O (br.below d);have Vf:=Z VR d;clear d VQ bo WY SU Y6 br VR;refine aL ?_
 go_upto_region 5 with fail
 refine jD ?_;refine bz (v:=jc s) ag (by rw[bk];exact uF rfl _) ?_;refine G ?_;refine jo rfl λ_ l=>?_
 go_simp;refine(Td x8).mono ?_;rintro e x9 ⟨⟨un,rfl⟩,d⟩;have RX:=Z TZ d;have a5:=Z a2 d;have bb:=Z a4 d;have U:=ac Rn d;have bc:jb (ay (λg=>w.heap.size<=g/\g<x9.heap.size) x9 c q):=O ((Wo.keep λg f=>d.block g f.2).mono λg f=>⟨f.1,jh f.2 d.size⟩);have bo:=O (Ym.below d);have Yl:=Z Vf d;clear d TZ a2 a4 Rn Wo Ym Vf;refine l _ _ ?_;clear l;refine G ?_;iterate 5 refine aL ?_
 go_upto_region 6 with fail
 refine jD ?_;refine bz (v:=jc s) ag (by rw[bk];exact uF rfl _) ?_;refine G ?_;refine bz (v:=jc u) ag (by rw[bd];exact Dy rfl _) ?_;refine G ?_;refine jo rfl λ_ l=>?_
 go_simp;refine(Zv x9 (HT.below U)).mono ?_;rintro e Y5 ⟨rfl,d⟩;have Z9:=Z RX d;have a4:=Z a5 d;have bq:=Z bb d;have YL:=ac U d;have br:jb (ay (λg=>w.heap.size<=g/\g<Y5.heap.size) Y5 c q):=O ((bc.keep λg f=>d.block g f.2).mono λg f=>⟨f.1,jh f.2 d.size⟩);have bs:=O (bo.below d);have bu:=Z Yl d;clear d RX a5 bb U bc bo Yl;refine l _ _ ?_;clear l;refine G ?_;iterate 3 refine aL ?_
 have b:=jy Y5 (jf s 29);obtain⟨X6,f⟩:=J Y5.heap.size;rw[<-f]at b;have d:=jC (af Y5 (jf s 29)) (jP f.symm) s;have z:=jN (Y5.alloc (jf s 29)) X6 _ s _ _ b;refine jo rfl λ_ l=>dW 29 rfl s bl (l _ _ ?_)
 clear l;rw[<-f];refine G ?_;refine jo rfl λ_ l=>jE 29 _ _ rfl X6 s rfl rfl 29 s b cx rfl cy (l _ _ ?_)
 clear l b f;refine G ?_;obtain⟨TE,M⟩:=J ((Y5.alloc (jf s 29)).setRow X6 s);rw[<-M]at d z⊢;clear M;have U:=Z Z9 d;have bb:=Z a4 d;have bc:=Z bq d;have bo:=ac YL d;have a2:jb (ay (λg=>w.heap.size<=g/\g<TE.heap.size) TE c q):=O ((br.keep λg f=>d.block g f.2).mono λg f=>⟨f.1,jh f.2 d.size⟩);have bv:=O (bs.below d);have bM:=Z bu d;clear d Z9 a4 bq YL br bs bu;have e2:=O z;clear z;refine aL ?_
 go_upto_region 7 with fail
 refine jD ?_;refine bz (v:=jc i) ag (aY jJ rfl ZW rfl rfl U) ?_;refine G ?_;have a4:=cv TE q (a2.mono λg f=>f.2);rw[<-Uw]at a4;refine jo rfl λ_ l=>?_
 go_simp;refine(a4).mono ?_;rintro e WK ⟨⟨ve,rfl,Vj⟩,d⟩;have bq:=Z U d;have br:=Z bb d;have bs:=Z bc d;have a5:=ac bo d;have bu:jb (ay (λg=>w.heap.size<=g/\g<WK.heap.size) WK c q):=O ((a2.keep λg f=>d.block g f.2).mono λg f=>⟨f.1,jh f.2 d.size⟩);have bN:=O (bv.below d);have bO:=Z bM d;clear d U bb bc bo a2 bv bM;have U:=O Vj;clear a4 Vj;obtain⟨pb,nb,cb,rfl⟩:∃p n k,ve=ji p n k:=by
  obtain⟨p,k,e⟩:=aO U;exact⟨p,_,k,e⟩
 have a2:jb (ap (·<WK.heap.size) WK (ji pb nb cb) 1 t.length (t.map v8)):=O (ap.of_own U (λg f=>(U.lt g f).2));clear U;refine l _ _ ?_;clear l;refine G ?_;iterate 5 refine aL ?_
 go_upto_region 8 with fail
 refine jD ?_;refine aL ?_;have QA:=a5.size;refine jo rfl λ_ l=>?_
 go_simp;refine(cw WK pb nb cb a2).mono ?_;rintro e UC ⟨⟨U,rfl,bb⟩,d⟩;have bc:=Z bq d;have bo:=Z br d;have bv:=Z bs d;have bM:=ac a5 d;have bT:jb (ay (λg=>w.heap.size<=g/\g<UC.heap.size) UC c q):=O ((bu.keep λg f=>d.block g f.2).mono λg f=>⟨f.1,jh f.2 d.size⟩);have b0:=O (bN.below d);have b1:=Z bO d;have b2:jb (ap (·<UC.heap.size) UC (ji pb nb cb) 1 t.length (t.map v8)):=O ((a2.keep λg f=>d.block g f).mono λg f=>jh f d.size);clear d bq br bs a5 bu bN bO a2;have a4:jb (ay (λg=>w.heap.size<=g/\g<UC.heap.size) UC c U):=O (bb.mono λg f=>⟨jQ QA f.1,f.2⟩);clear bb QA;refine l _ _ ?_;clear l;refine G ?_;obtain⟨AD,VK⟩:=J ((ah c U).toArray);rw[<-VK];have bN:jb ((ja.info? 37).map (·.size)=jd AD.size):=O (by rw[VK,fZ c U a4.plen a4.clen];exact fa);have c9:jb (u.size=AD.size):=O (by rw[VK,fZ c U a4.plen a4.clen,bd];exact nP);have db:jb (AD.all (·.oneCell')=true):=O (by rw[VK];exact Kd a4);have Vn:=O VK;clear VK;iterate 3 refine aL ?_
 have b:=jy UC (jf u 37);obtain⟨Rz,f⟩:=J UC.heap.size;rw[<-f]at b;have d:=jC (af UC (jf u 37)) (jP f.symm) AD;have z:=jN (UC.alloc (jf u 37)) Rz _ AD _ _ b;refine jo rfl λ_ l=>dW 37 rfl u bn (l _ _ ?_)
 clear l;rw[<-f];refine G ?_;refine jo rfl λ_ l=>jE 37 _ _ rfl Rz AD rfl rfl 37 u b bN c9 db (l _ _ ?_)
 clear l b f;refine G ?_;obtain⟨a2,M⟩:=J ((UC.alloc (jf u 37)).setRow Rz AD);rw[<-M]at d z⊢;clear M;have a5:=Z bc d;have bb:=Z bo d;have b:=Z bv d;have bq:=ac bM d;have br:jb (ay (λg=>w.heap.size<=g/\g<a2.heap.size) a2 c q):=O ((bT.keep λg f=>d.block g f.2).mono λg f=>⟨f.1,jh f.2 d.size⟩);have bs:=O (b0.below d);have bu:=Z b1 d;have bO:jb (ap (·<a2.heap.size) a2 (ji pb nb cb) 1 t.length (t.map v8)):=O ((b2.keep λg f=>d.block g f).mono λg f=>jh f d.size);have b3:jb (ay (λg=>w.heap.size<=g/\g<a2.heap.size) a2 c U):=O ((a4.keep λg f=>d.block g f.2).mono λg f=>⟨f.1,jh f.2 d.size⟩);clear d bc bo bv bM bT b0 b1 b2 a4;have bc:=O z;clear z;refine aL ?_
 go_upto_region 9 with fail
 have d:=aP a2;refine jX ?_;refine bi (λm=>m.heap[Qi]?=jd (jf R 29 (0,0))) (.take 0 (.one 1 (.one 2 (.one 3 (.take 4 (.take 5 (.take 6 (.take 7 (.take 8 .done))))))))) ae ae ae L (λ_ _ _ _ h=>h) b ?_;obtain⟨a4,M⟩:=J a2.drew;rw[<-M]at d⊢;clear M;have z:=Z a5 d;have bo:=Z bb d;have bv:=Z b d;have bM:=ac bq d;have bT:jb (ay (λg=>w.heap.size<=g/\g<a4.heap.size) a4 c q):=O ((br.keep λg f=>d.block g f.2).mono λg f=>⟨f.1,jh f.2 d.size⟩);have b0:=O (bs.below d);have b1:=Z bu d;have b2:jb (ap (·<a4.heap.size) a4 (ji pb nb cb) 1 t.length (t.map v8)):=O ((bO.keep λg f=>d.block g f).mono λg f=>jh f d.size);have b4:jb (ay (λg=>w.heap.size<=g/\g<a4.heap.size) a4 c U):=O ((b3.keep λg f=>d.block g f.2).mono λg f=>⟨f.1,jh f.2 d.size⟩);have b5:=Z bc d;clear d a5 bb b bq br bs bu bO b3 bc
 (refine az (v:=jc R) rfl ag (λm r=>aY jR rfl bg rfl rfl r) ?_;refine G ?_)
 refine ai rfl (λK' l=>?_);go_simp;refine(TG a4).mono ?_;rintro e Zb ⟨rfl,d⟩;have bb:=Z z d;have bc:=Z bo d;have b:=Z bv d;have bq:=ac bM d;have br:jb (ay (λg=>w.heap.size<=g/\g<Zb.heap.size) Zb c q):=O ((bT.keep λg f=>d.block g f.2).mono λg f=>⟨f.1,jh f.2 d.size⟩);have bs:=O (b0.below d);have bu:=Z b1 d;have bO:jb (ap (·<Zb.heap.size) Zb (ji pb nb cb) 1 t.length (t.map v8)):=O ((b2.keep λg f=>d.block g f).mono λg f=>jh f d.size);have b3:jb (ay (λg=>w.heap.size<=g/\g<Zb.heap.size) Zb c U):=O ((b4.keep λg f=>d.block g f.2).mono λg f=>⟨f.1,jh f.2 d.size⟩);have b6:=Z b5 d;clear d z bo bv bM bT b0 b1 b2 b4 b5;refine l _ _ b.out λ_=>?_
 clear l;refine G ?_;have d:=af Zb (jf #[ic ih 1,ic ih 4,ic ih F,ic ih H,ic ih 0] 49);have Qx:=iL Zb [ic ih 1,ic ih 4,ic ih F,ic ih H,ic ih 0] 49 5 1 Zb.heap.size (jF _) rfl L;have S:ap (·<(Zb.alloc (jf #[ic ih 1,ic ih 4,ic ih F,ic ih H,ic ih 0] 49)).heap.size) (Zb.alloc (jf #[ic ih 1,ic ih 4,ic ih F,ic ih H,ic ih 0] 49)) (ji (jd ⟨Zb,0,jj⟩) 1 1) 5 1 [ic ih 1,ic ih 4,ic ih F,ic ih H,ic ih 0]:=ap.of_own Qx (λg f=>(Qx.lt g f).2);refine ai rfl (λK' l=>?_);go_simp;refine l _ _ (av b d) λ_=>?_
 clear l Qx;refine G ?_;obtain⟨a5,M⟩:=J (Zb.alloc (jf #[ic ih 1,ic ih 4,ic ih F,ic ih H,ic ih 0] 49));obtain⟨e3,f⟩:=J Zb.heap.size;rw[<-M]at d S⊢;rw[<-f]at S⊢;clear M f;have bo:=Z bb d;have bv:=Z bc d;have bM:=Z b d;have bT:=ac bq d;have b0:jb (ay (λg=>w.heap.size<=g/\g<a5.heap.size) a5 c q):=O ((br.keep λg f=>d.block g f.2).mono λg f=>⟨f.1,jh f.2 d.size⟩);have b1:=O (bs.below d);have b2:=Z bu d;have b4:jb (ap (·<a5.heap.size) a5 (ji pb nb cb) 1 t.length (t.map v8)):=O ((bO.keep λg f=>d.block g f).mono λg f=>jh f d.size);have b5:jb (ay (λg=>w.heap.size<=g/\g<a5.heap.size) a5 c U):=O ((b3.keep λg f=>d.block g f.2).mono λg f=>⟨f.1,jh f.2 d.size⟩);have b7:=Z b6 d;clear d bb bc b bq br bs bu bO b3 b6;have dd:=O S;clear S;refine ai rfl (λK' l=>?_);go_simp;refine(cs a5 _ dd.out).mono ?_;rintro e Zc ⟨⟨p9,k9,rfl⟩,d⟩;have br:=Z bo d;have bs:=Z bv d;have b:=Z bM d;have z:=ac bT d;have bu:jb (ay (λg=>w.heap.size<=g/\g<Zc.heap.size) Zc c q):=O ((b0.keep λg f=>d.block g f.2).mono λg f=>⟨f.1,jh f.2 d.size⟩);have bO:=O (b1.below d);have b3:=Z b2 d;have b6:jb (ap (·<Zc.heap.size) Zc (ji pb nb cb) 1 t.length (t.map v8)):=O ((b4.keep λg f=>d.block g f).mono λg f=>jh f d.size);have b8:jb (ay (λg=>w.heap.size<=g/\g<Zc.heap.size) Zc c U):=O ((b5.keep λg f=>d.block g f.2).mono λg f=>⟨f.1,jh f.2 d.size⟩);have b9:=Z b7 d;clear d bo bv bM bT b0 b1 b2 b4 b5 b7;refine l _ _ b.out λ_=>?_
 clear l;refine G ?_;iterate 5 refine aS ?_
 refine jS ?_
 go_upto_region 10 with fail
 refine jD ?_;refine bz (v:=jc K1) ag (by rw[SZ];exact uN rfl _) ?_;refine G ?_;refine jo rfl λ_ l=>?_
 go_simp;refine(cu Zc (HT.below z)).mono ?_;rintro e ZJ ⟨vr,rfl,bv,d⟩;have bc:=Z br d;have bM:=Z bs d;have bT:=Z b d;have b0:=ac z d;have bb:jb (ay (λg=>w.heap.size<=g/\g<ZJ.heap.size) ZJ c q):=O ((bu.keep λg f=>d.block g f.2).mono λg f=>⟨f.1,jh f.2 d.size⟩);have bo:=O (bO.below d);have bq:=Z b3 d;have b1:jb (ap (·<ZJ.heap.size) ZJ (ji pb nb cb) 1 t.length (t.map v8)):=O ((b6.keep λg f=>d.block g f).mono λg f=>jh f d.size);have b2:jb (ay (λg=>w.heap.size<=g/\g<ZJ.heap.size) ZJ c U):=O ((b8.keep λg f=>d.block g f.2).mono λg f=>⟨f.1,jh f.2 d.size⟩);have b4:=Z b9 d;clear d br bs b z bu bO b3 b6 b8 b9;obtain⟨gl,cl,LC,rfl,br,bs,b,z⟩:=ET bv L;have bO:=O b;have dn:jb (∀j au,((bU (kb 1#8) 9).map v8)[j]?=jd au->LC[288+j]?=jd au):=O (λj au hj=>z _ _ (D7 (kb 1#8) (iU _) 10 9 j L au hj));clear bv br bs b z;refine l _ _ ?_;clear l;refine G ?_;refine aL ?_
 go_upto_region 11 with fail
 obtain⟨gm,om,e4,dr,ba⟩:=Jv HC bo;injection dr with ds dv ea
 subst ds dv ea;obtain⟨e5,e6,z⟩:=Ii (n:=1) (by rw[HC];exact JR) bb;obtain⟨e7,e8,au⟩:=PC (n:=1) (by rw[HC];exact IM) bb;rw[<-Uw]at z au;have eb:=O z;have ec:=O au;obtain⟨x0,br,bs⟩:=NK (vm:=ji (jd ⟨gm,om,jj⟩) 2 cm) (vt:=ji pt nt ct) bo.llen MY (Ln HC);rw[<-bK]at x0 br bs;have Vs:=O x0;have Sb:=O br;have b3:=O bs;have b5:=bo.llen;have j:jb (∀m:jg,m.heap[X]?=jd (jf AX 29 (0,0))->m.rangeAt X 2 ((idC c).map v8)):=O (λm r=>OF b5 Hj bK r);have bu:=LN c;have Vk:=JC (idC c) (sQ c);have bv:∀(W:jg),gz W->ay (·<W.heap.size) W c q->jp ja 16 #[jc i] W λe w'=>e=js (jc ((idC c).map v8).toArray)/\jl W W w':=λW ht x=>by
  rw[Uw];exact B3 c q W x (by rw[HC];exact lP.encOk) ht.s.dig
 obtain⟨DC,b6⟩:=J ((idC c).map v8);replace j:=j.out;rw[<-b6]at j bu Vk bv;have ed:=O j;have eg:=O bu;have ej:=O Vk;have ek:=O bv;have b:jb (ZJ.heap[X]?=jd (jf AX 29 (0,0))/\ZJ.heap[C]?=jd (jf i 37 (0,0))/\ZJ.cell? ⟨gm,om+3,jj⟩=jd (ic ih 7)):=O ⟨bq,bc,ba⟩;clear ba z au x0 br bs b5 j bu Vk bv b6;have d:=aP ZJ;refine jX ?_;refine bi (λm=>m.heap[X]?=jd (jf AX 29 (0,0))/\m.heap[C]?=jd (jf i 37 (0,0))/\m.cell? ⟨gm,om+3,jj⟩=jd (ic ih 7)) (.take 0 (.take 1 (.take 2 (.take 3 (.take 4 (.take 5 (.take 6 (.take 7 (.take 8 (.take 9 (.take 10 (.take 11 (.take 12 (.take 13 (.take 14 (.take 15 (.take 16 (.take 17 (.take 18 (.take 19 (.take 20 (.take 21 (.take 22 (.take 23 (.take 24 (.take 25 (.take 26 (.take 27 (.take 28 (.take 29 (.take 30 (.take 31 (.take 32 (.take 33 (.one 34 (.take 35 (.take 36 (.take 37 (.take 38 (.take 39 (.take 40 (.take 41 (.take 42 (.take 43 (.take 44 (.take 45 (.take 46 (.take 47 (.take 48 (.take 49 (.take 50 (.take 51 (.take 52 (.take 53 (.take 54 (.take 55 (.take 56 (.take 57 (.take 58 (.take 59 (.take 60 (.take 61 .done)))))))))))))))))))))))))))))))))))))))))))))))))))))))))))))) ae ae ae L (λ_ _ _ _ h=>h) b ?_;obtain⟨ba,M⟩:=J ZJ.drew;rw[<-M]at d⊢;clear M;have bv:=Z bc d;have b5:=Z bM d;have b6:=Z bT d;have br:=ac b0 d;have bs:jb (ay (λg=>w.heap.size<=g/\g<ba.heap.size) ba c q):=O ((bb.keep λg f=>d.block g f.2).mono λg f=>⟨f.1,jh f.2 d.size⟩);have b7:=Z bq d;have b8:jb (ap (·<ba.heap.size) ba (ji pb nb cb) 1 t.length (t.map v8)):=O ((b1.keep λg f=>d.block g f).mono λg f=>jh f d.size);have b9:jb (ay (λg=>w.heap.size<=g/\g<ba.heap.size) ba c U):=O ((b2.keep λg f=>d.block g f.2).mono λg f=>⟨f.1,jh f.2 d.size⟩);have ca:=Z b4 d;have cc:=Z bO d;have z:=O (And.intro (av b.1 d) (And.intro (av b.2.1 d) ((bE (d.block gm (eR b.2.2))).trans b.2.2)));clear d bc bM bT b0 bb bq b1 b2 b4 bO b;iterate 8 refine aS ?_
 (refine az (v:=?_) rfl ag (λm r=>?_) ?_;rotate_left;(have b:=cell_of r.1 Sb;go_simp;with_reducible rfl);refine G ?_)
 iterate 4 refine aS ?_
 (refine az (v:=?_) rfl ag (λm r=>?_) ?_;rotate_left;(have b:=cell_of r.1 Vs;go_simp;with_reducible rfl);refine G ?_)
 iterate 4 refine aS ?_
 (refine az (v:=?_) rfl ag (λm r=>?_) ?_;rotate_left;(have b:=cell_of r.1 b3;go_simp;with_reducible rfl);refine G ?_)
 iterate 5 refine aS ?_
 (refine az (v:=?_) rfl ag (λm r=>?_) ?_;rotate_left;(have b:=cell_of r.1 b3;go_simp;with_reducible rfl);refine G ?_)
 iterate 2 refine aS ?_
 (refine az (v:=?_) rfl ag (λm r=>?_) ?_;rotate_left;(have b:=r.2.2;go_simp;with_reducible rfl);refine G ?_)
 iterate 4 refine aS ?_
 (refine az (v:=jc DC.toArray) rfl ag (λm r=>m9 jY rfl eg rfl rfl (ed m r.1)) ?_;refine G ?_)
 (refine az (v:=jc i) rfl ag (λm r=>aY jJ rfl ZW rfl rfl r.2.1) ?_;refine G ?_)
 refine ai rfl (λK' l=>?_);go_simp;refine(ek ba (HT.below br) (bs.mono λg f=>f.2)).mono ?_;rintro e j ⟨rfl,d⟩;have bb:=Z bv d;have bc:=Z b5 d;have bM:=Z b6 d;have bO:=ac br d;have bT:jb (ay (λg=>w.heap.size<=g/\g<j.heap.size) j c q):=O ((bs.keep λg f=>d.block g f.2).mono λg f=>⟨f.1,jh f.2 d.size⟩);have b0:=Z b7 d;have b1:jb (ap (·<j.heap.size) j (ji pb nb cb) 1 t.length (t.map v8)):=O ((b8.keep λg f=>d.block g f).mono λg f=>jh f d.size);have b2:jb (ay (λg=>w.heap.size<=g/\g<j.heap.size) j c U):=O ((b9.keep λg f=>d.block g f.2).mono λg f=>⟨f.1,jh f.2 d.size⟩);have bq:=Z ca d;have bu:=Z cc d;have au:=O (And.intro (av z.1 d) (And.intro (av z.2.1 d) ((bE (d.block gm (eR z.2.2))).trans z.2.2)));clear d bv b5 b6 br bs b7 b8 b9 ca cc z;refine l _ _ au.out λ_=>?_
 clear l;refine G ?_
 (refine az (v:=?_) rfl ag (λm r=>?_) ?_;rotate_left;(have z:=ej.out;go_simp;with_reducible rfl);refine G ?_)
 iterate 3 refine aS ?_
 (refine az (v:=?_) rfl ag (λm r=>?_) ?_;rotate_left;(have b:=cell_of r.2.1 eb;go_simp;with_reducible rfl);refine G ?_)
 iterate 5 refine aS ?_
 (refine az (v:=?_) rfl ag (λm r=>?_) ?_;rotate_left;(have b:=cell_of r.2.1 ec;go_simp;with_reducible rfl);refine G ?_)
 iterate 16 refine aS ?_
 refine jS ?_
 go_upto_region 12 with fail
 have br:∀(W:jg),ay (·<W.heap.size) W c q->ay (·<W.heap.size) W c U->jp ja 17 #[jc i,jc AD] W λe w'=>e=js (.bool true)/\jl W W w':=λW h1 h2=>by
  rw[Uw,Vn];have S:=lP.encOk;rw[<-HC]at S;have h:=KV c c q U W h1 h2 S S.lens.1 S.lens.2.1 S.lens.2.2.1 S.lens.2.2.2;rw[yY rfl]at h;exact h
 have Q1:=O br;have bs:∀(W:jg),jp ja 18 #[jc u] W λe w'=>e=js (ic ih 220)/\jl W W w':=λW=>by
  rw[bd];have h:=CE dP fk W FA L L L L (λb z=>by cases z) (λb z=>by cases z);rw[Fu]at h;exact h
 have em:=O bs;obtain⟨RL,b⟩:=J (((bU (kb 1#8) 9).map v8).toArray);have ep:jb ((ja.info? 53).map (·.size)=jd ((bU (kb 1#8) 9).map v8).length):=O (by rw[jG,en _ (iU _)];kernel_rfl);have bv:∀(W:jg),fN W->jp ja 19 #[jc P,jc RL] W λe w'=>e=js (jc Q)/\jl W W w':=λW ht=>by
  rw[bB,bm,b,Hs];exact DK dj (bU (kb 1#8) 9) dy (en _ (iU _) _) W ht
 have eq:=O bv;have er:=O b;have ev:jb (∀z,(Op.equalIn 10000 53 (jc Q) (jc Q)).run ja z=.ok true z):=O (λz=>by rw[bB];exact IU _ yS z);have au:jb (j.heap[C]?=jd (jf i 37 (0,0))/\j.heap[Rz]?=jd (jf AD 37 (0,0))/\j.heap[K]?=jd (jf Q 53 (0,0))/\j.heap[gl]?=jd (jf LC 53 (0,0))):=O ⟨bb,bq,bc,bu⟩;clear br bs bv b;have d:=aP j;refine jX ?_;refine bi (λm=>m.heap[C]?=jd (jf i 37 (0,0))/\m.heap[Rz]?=jd (jf AD 37 (0,0))/\m.heap[K]?=jd (jf Q 53 (0,0))/\m.heap[gl]?=jd (jf LC 53 (0,0))) (.take 0 (.take 1 (.take 2 (.take 3 (.take 4 (.take 5 (.take 6 (.take 7 (.take 8 (.take 9 (.take 10 (.take 11 (.one 12 (.take 13 (.take 14 (.take 15 (.take 16 (.take 17 (.take 18 (.take 19 (.take 20 (.take 21 (.take 22 (.take 23 (.take 24 (.one 25 (.take 26 (.take 27 (.take 28 (.take 29 (.take 30 (.take 31 (.take 32 (.take 33 (.take 34 (.take 35 (.take 36 (.take 37 (.take 38 (.one 39 (.take 40 (.take 41 (.take 42 .done))))))))))))))))))))))))))))))))))))))))))) ae ae ae L (λ_ _ _ _ h=>h) au ?_;obtain⟨b,M⟩:=J j.drew;rw[<-M]at d⊢;clear M;have bv:=Z bb d;have b4:=Z bc d;have b5:=Z bM d;have b6:=ac bO d;have br:jb (ay (λg=>w.heap.size<=g/\g<b.heap.size) b c q):=O ((bT.keep λg f=>d.block g f.2).mono λg f=>⟨f.1,jh f.2 d.size⟩);have b7:=Z b0 d;have b8:jb (ap (·<b.heap.size) b (ji pb nb cb) 1 t.length (t.map v8)):=O ((b1.keep λg f=>d.block g f).mono λg f=>jh f d.size);have bs:jb (ay (λg=>w.heap.size<=g/\g<b.heap.size) b c U):=O ((b2.keep λg f=>d.block g f.2).mono λg f=>⟨f.1,jh f.2 d.size⟩);have b9:=Z bq d;have ca:=Z bu d;have M:=O (And.intro (av au.1 d) (And.intro (av au.2.1 d) (And.intro (av au.2.2.1 d) (av au.2.2.2 d))));clear d bb bc bM bO bT b0 b1 b2 bq bu au;iterate 10 refine aS ?_
 (refine az (v:=jc i) rfl ag (λm r=>aY jJ rfl ZW rfl rfl r.1) ?_;refine G ?_)
 (refine az (v:=jc AD) rfl ag (λm r=>aY jJ rfl bN rfl rfl r.2.1) ?_;refine G ?_)
 refine ai rfl (λK' l=>?_);go_simp;refine(Q1 b (br.mono λg f=>f.2) (bs.mono λg f=>f.2)).mono ?_;rintro e z ⟨rfl,d⟩;have bu:=Z bv d;have bM:=Z b4 d;have bO:=Z b5 d;have bT:=ac b6 d;have b0:jb (ay (λg=>w.heap.size<=g/\g<z.heap.size) z c q):=O ((br.keep λg f=>d.block g f.2).mono λg f=>⟨f.1,jh f.2 d.size⟩);have b1:=Z b7 d;have b2:jb (ap (·<z.heap.size) z (ji pb nb cb) 1 t.length (t.map v8)):=O ((b8.keep λg f=>d.block g f).mono λg f=>jh f d.size);have cc:jb (ay (λg=>w.heap.size<=g/\g<z.heap.size) z c U):=O ((bs.keep λg f=>d.block g f.2).mono λg f=>⟨f.1,jh f.2 d.size⟩);have cd:=Z b9 d;have ce:=Z ca d;have bb:=O (And.intro (av M.1 d) (And.intro (av M.2.1 d) (And.intro (av M.2.2.1 d) (av M.2.2.2 d))));clear d bv b4 b5 b6 br b7 b8 bs b9 ca M;refine l _ _ bb.out λ_=>?_
 clear l;refine G ?_;iterate 11 refine aS ?_
 (refine az (v:=jc u) rfl ag (λm r=>by rw[bd];exact Dy rfl _) ?_;refine G ?_)
 refine ai rfl (λK' l=>?_);go_simp;refine(em z).mono ?_;rintro e M ⟨rfl,d⟩;have br:=Z bu d;have bs:=Z bM d;have bv:=Z bO d;have bq:=ac bT d;have b4:jb (ay (λg=>w.heap.size<=g/\g<M.heap.size) M c q):=O ((b0.keep λg f=>d.block g f.2).mono λg f=>⟨f.1,jh f.2 d.size⟩);have b5:=Z b1 d;have b6:jb (ap (·<M.heap.size) M (ji pb nb cb) 1 t.length (t.map v8)):=O ((b2.keep λg f=>d.block g f).mono λg f=>jh f d.size);have b7:jb (ay (λg=>w.heap.size<=g/\g<M.heap.size) M c U):=O ((cc.keep λg f=>d.block g f.2).mono λg f=>⟨f.1,jh f.2 d.size⟩);have b8:=Z cd d;have b9:=Z ce d;have bc:=O (And.intro (av bb.1 d) (And.intro (av bb.2.1 d) (And.intro (av bb.2.2.1 d) (av bb.2.2.2 d))));clear d bu bM bO bT b0 b1 b2 cc cd ce bb;refine l _ _ bc.out λ_=>?_
 clear l;refine G ?_;iterate 8 refine aS ?_
 (refine az (v:=jc Q) rfl ag (λm r=>aY underlying53 rfl bC rfl rfl r.2.2.1) ?_;refine G ?_)
 (refine az (v:=jc P) rfl ag (λm r=>by rw[bm];exact BR rfl _) ?_;refine G ?_)
 iterate 2 refine aS ?_
 (refine az (v:=jc RL) rfl ag (λm r=>by rw[er];exact m9 underlying53 rfl ep rfl rfl (rc (o:=288) r.2.2.2 dn)) ?_;refine G ?_)
 refine ai rfl (λK' l=>?_);go_simp;refine(eq M (HT.below bq).s).mono ?_;rintro e bb ⟨rfl,d⟩;have bM:=Z br d;have bO:=Z bs d;have bT:=Z bv d;have bu:=ac bq d;have b0:jb (ay (λg=>w.heap.size<=g/\g<bb.heap.size) bb c q):=O ((b4.keep λg f=>d.block g f.2).mono λg f=>⟨f.1,jh f.2 d.size⟩);have b1:=Z b5 d;have b2:jb (ap (·<bb.heap.size) bb (ji pb nb cb) 1 t.length (t.map v8)):=O ((b6.keep λg f=>d.block g f).mono λg f=>jh f d.size);have ca:jb (ay (λg=>w.heap.size<=g/\g<bb.heap.size) bb c U):=O ((b7.keep λg f=>d.block g f.2).mono λg f=>⟨f.1,jh f.2 d.size⟩);have cc:=Z b8 d;have cd:=Z b9 d;have g:=O (And.intro (av bc.1 d) (And.intro (av bc.2.1 d) (And.intro (av bc.2.2.1 d) (av bc.2.2.2 d))));clear d br bs bv bq b4 b5 b6 b7 b8 b9 bc;refine l _ _ g.out λ_=>?_
 clear l;refine G ?_
 (refine az (v:=?_) rfl ag (λm r=>?_) ?_;rotate_left;(have m:=ev.out;go_simp;with_reducible rfl);refine G ?_)
 iterate 2 refine aS ?_
 refine jS ?_
 go_wp2_with fail
 go_ret;exact⟨rfl,bu⟩
theorem OD(g:Grp)(vm vt:je)(c:Cmt)(q:CQ)(d:Int)(w:jg)(h:bQ w g vm vt)(f:ay (·<w.heap.size) w c q)(i:tQ c)(j:g.mem.length<=jr)(k:g.tree.length<=jr)(l:c.box.length<=jr)(m:c.wel.length<=jr)(n:gz w):
 jp ja 3 #[jc (aA g vm vt).toArray,jc (ah c q).toArray,ic ih d] w λe w'=>e=js (.bool true)/\jl w w w':=
 Gj gz (λa b h o=>h.below o) (λa h=>h.s.dig) Lp
  (λg vm vt c q W a b o p r s=>(yi g vm vt c q W a b o p r s).mono λe w' h=>h)
  g vm vt c q d w h f i j k l m n
def sB{H:Type}(a:List (List UInt8)):jk H:=.agg (a.map λz=>.lit (.string z))
theorem Lx{H:Type}{enc:jm×je->H}{P:Program}{w:jg}{base:Nat}{g:Nat->Bool}{j:Bool}{fuel:Nat}{t e:jm}{n:Nat}{cs:List je}{a:List (List UInt8)}{p:List jq}
 (k:P.underlying t=jd (.array n e)) (he:P.underlying e=jd .string) (l:P.cellsOf e=1) (m:P.cellsOf t=n)
 (h:DataW.trod enc P w base g j fuel t cs=jd (sB a,p)):cs=a.map λz=>Value.string ⟨z.toArray⟩:=by
 rcases fuel with _|fuel
 ·simp[DataW.trod]at h
 simp only[DataW.trod,k,l,m,Nat.mul_one]at h
 split at h
 ·rename_i C
  obtain⟨xs,d,o⟩:=j9.1 h;have f:xs.map (·.1)=a.map λz=>(DataW.lit (.string z):jk H):=by
   have:=congrArg Prod.fst o
   simpa [sB]using this
  have D:xs.length=n:=by simpa using Lib.mapM_length d
  have E:a.length=n:=by
   have:=congrArg List.length f;simp at this;omega
  apply ki
  intro i
  by_cases q:i<n
  ·obtain⟨b,r,u⟩:=Lib.mapM_at d i i (by simp[q])
   obtain⟨s,v,rfl,-⟩:=DataW.trod_string he u;have x:cs[i]?=jd (.string s):=by
    have:=congrArg (·[0]?) v
    simpa [List.getElem?_take,List.getElem?_drop]using this
   have c:(xs.map (·.1))[i]?=jd (DataW.lit (.string s.data.toList):jk H):=by simp[r]
   rw[f]at c;simp only[kl,j9,DataW.lit.injEq,Lit.string.injEq]at c;obtain⟨F,y,B⟩:=c;rw[x,kl,y,B];simp
  rw[j0 Y,j0 (by simp;omega)]
 cases h
theorem GQ{P:Program}{W:jg}{a:String}{b:List (List UInt8)}{c:List (String×jk Unit)}{g:Nat}{t e:jm}{n:Nat}
 (d:P.globalNamed a=jd g) (f:(P.globals[g]?).map (·.type)=jd t) (i:P.underlying t=jd (.array n e)) (he:P.underlying e=jd .string) (j:P.cellsOf e=1) (k:P.cellsOf t=n)
 (h:laidMet P ((a,sB b)::c) W):W.var? P a=jd (b.map λz=>Value.string ⟨z.toArray⟩).toArray:=by
 obtain⟨s,⟨u,v,cs,fuel,p,q,l,m,o,r,_,_⟩,_⟩:=h;obtain rfl:=Option.some.inj (d.symm.trans l);obtain rfl:=Option.some.inj (f.symm.trans m);rw[o,<-Lx i he j k r]
def sf:List (String×jk Unit):=[("chartroom/digest.start",Rows.laid_chartroom_digest_start),("chartroom/digest.numbers",Rows.laid_chartroom_digest_numbers),("bytes.ErrTooLarge",Rows.laid_bytes_ErrTooLarge),("chartroom/cipher.constants",Rows.laid_chartroom_cipher_constants),("chartroom/schedule.labels",Rows.laid_chartroom_schedule_labels)]
theorem Im{W:jg}(h:laidMetH ja sf W):iF W/\fN W:=by
 have i:(Rows.laid_chartroom_digest_start:jk Unit)=Lib.tabData .u32 (eI.map λx=>(x.toNat:Int)):=by kernel_rfl
 have j:(Rows.laid_chartroom_digest_numbers:jk Unit)=Lib.tabData .u32 (kf.map λx=>(x.toNat:Int)):=by kernel_rfl
 have k:(Rows.laid_chartroom_cipher_constants:jk Unit)=Lib.tabData .u32 [0x61707865,0x3320646e,0x79622d32,0x6b206574]:=by kernel_rfl
 have l:(Rows.laid_chartroom_schedule_labels:jk Unit)=sB [[105,110,105,116],[99,111,109,109,105,116],[99,104,105,108,100]]:=by kernel_rfl
 unfold sf at h;rw[MakeChecks.laidMetH_plain _ _ _ ae,i,j,k,l]at h;have e:=h.tail;have f:=e.tail.tail;have m:=f.tail;have a:=Lib.tabIs_of_head (g:=3) ae ae underlying309 j4 ae ae e;have b:=Lib.tabIs_of_head (g:=1) ae ae underlying278 j4 ae ae h;have c:=Lib.tabIs_of_head (g:=6) ae ae underlying334 j4 ae ae f;have d:=GQ (g:=0) ae ae underlying222 underlying9 ae ae m;exact⟨⟨a,b,c⟩,⟨a,b⟩,d⟩
theorem door_met(os:Os)(args:Array je):laidMetH ja sf ((World.doorLaid ja 3000 os).forCall (λ_ _=>0) ⟨#[],args,[]⟩).memory:=
 laidMetH_of_parts3 (fuel:=8) (laidMet_of_run' 8 ae ae) ae ae
section
open Go.RowKit Go.ChangeShapes Go.WideShapes Go.Deep
theorem EF(g o j:Nat):(⟨g,o,jj⟩:Addr).add j=⟨g,o+j,jj⟩:=by unfold Addr.add;split<;>simp_all
instance:Inhabited Chg:=⟨pf⟩
instance:Inhabited Mem:=⟨bF⟩
instance:Inhabited Bx:=⟨⟨0,0,0,[]⟩⟩
instance:Inhabited Wl:=⟨⟨0,0,[]⟩⟩
instance:Inhabited je:=⟨.slice jj 0 0⟩
theorem Cs{k:Int}(h:(Lit.int .u8 k).wf=true):jM .u8 k=v8 (jT 8 k.toNat):=by
 have a:=bounds_u8 h;show _ =jM .u8 ((jT 8 k.toNat).toNat:Int);rw[BitVec.toNat_ofNat]
 congr 1
 omega
theorem nT{H α:Type}[Inhabited α]{enc:jm×je->H}{W:jg}{k:Nat}(hk:0<k){t e:jm}(R:ja.underlying t=jd (.slice e))(S:ja.cellsOf e=k)(b:α->List je)(q:∀x,(b x).length=k)(w:α->Prop)
 (he:∀(fuel:Nat) (cs:List je) (x:jk H×List jq),DataW.trod enc ja W 0 (λ_=>true) true fuel e cs=jd x->∃E,cs=b E/\w E)
 {fuel:Nat} {v:je} {x:jk H×List jq} (h:DataW.trod enc ja W 0 (λ_=>true) true fuel t [v]=jd x):
 ∃l:List α,ap (·<W.heap.size) W v k l.length (l.flatMap b)/\(∀E∈l,w E)/\l.length<=jr:=by
 rcases open_slice R h with⟨y,-⟩|⟨a,c,z,m,n,D,P0,y,-,U,hm,V,-,B⟩
 ·obtain rfl:v=.slice jj 0 0:=by simpa using y
  exact⟨[],⟨by simp,jj,0,rfl,jF _,λ_=>rfl,λh=>absurd h ar⟩,λE h=>by simp at h,Nat.zero_le _⟩
 obtain rfl:v=.slice (jd a) c z:=by simpa using y
 have Q9:m=z:=by simpa using V
 have X:∀i,i<c->∃E:α,(∀j,j<k->W.cell? (a.add (i*k+j))=(b E)[j]?)/\w E:=λi d=>by
  obtain⟨p,f,r⟩:=B i Y;rw[S]at f;obtain⟨E,rfl,g⟩:=he _ _ _ r;obtain⟨-,-,o⟩:=World.cells?_some f;refine⟨E,λj s=>?_,g⟩;have:=o j s
  rwa [add_add]at this
 obtain⟨E,C⟩:=choose_lt X;have p:((jH c).map E).length=c:=by simp
 refine⟨(jH c).map E,⟨flat_length b k q _,jd a,z,by rw[p],by rw[p];exact U,(λe=>by cases e),λF=>?_⟩,λx B=>?_,by rw[p];omega⟩
 ·rw[p]at F
  obtain⟨g,o,aa⟩:=a;have ad:∃K,(b (E 0))[0]?=jd K:=⟨_,j1 (by rw[q];exact hk)⟩;obtain⟨u0,al⟩:=ad;have u:=(C 0 F).1 0 hk;rw[al]at u;have au:aa=jj:=by
   simp[Addr.add]at u;exact km u
  subst au;have hg:g<W.heap.size:=eR (by simpa [Addr.add]using u);refine⟨g,o,rfl,hg,λj K s=>?_⟩;have M:=(List.getElem?_eq_some_iff.1 s).1;rw[flat_length b k q,p]at M;have d:j/k<c:=Nat.div_lt_of_lt_mul (by rw[Nat.mul_comm];exact M);have P:j%k<k:=Nat.mod_lt _ hk;have f:=flat_get b k q ((jH c).map E) (j/k) (j%k) (E (j/k)) (by simp[d]) P;have Q:j/k*k+j%k=j:=by rw[Nat.mul_comm];exact Nat.div_add_mod j k
  rw[Q]at f;have r:=(C (j/k) d).1 (j%k) P;rw[Q,EF]at r;rw[r,<-f];exact s
 obtain⟨i,d,rfl⟩:=jU.1 B;exact(C i (kn.1 d)).2
theorem vU{H:Type}{enc:jm×je->H}{W:jg}{t:jm}(f:ja.underlying t=jd (.array 32 5))(g:ja.cellsOf t=32){fuel:Nat}{cs:List je}{x:jk H×List jq}(h:DataW.trod enc ja W 0 (λ_=>true) true fuel t cs=jd x):
 ∃kb:LBy,cs=kb.map v8/\kb.length=32:=by
 obtain⟨xs,m,-,-,j,p,k⟩:=DataW.trod_array f h;rw[g]at j;have l:ja.cellsOf 5=1:=by kernel_rfl
 have n:∀i,i<32->∃b:BitVec 8,cs[i]?=jd (v8 b):=λi c=>by
  have d:=k i c;rw[l,Nat.mul_one,jw Y,j1 Y]at d;simp only[List.take_succ_cons,List.take_zero]at d;obtain⟨a,e,-,o⟩:=DataW.trod_int underlying5 d;injection e with e _
  exact⟨jT 8 a.toNat,by rw[j1 Y,e,Cs o]⟩
 obtain⟨E,a⟩:=choose_lt n;refine⟨(jH 32).map E,?_,by simp⟩
 apply ki
 intro i
 by_cases c:i<32
 ·rw[a i c];simp[c]
 rw[j0 Y];symm;simp;omega
theorem LP{H:Type}{enc:jm×je->H}{W:jg}{fuel:Nat}{cs:List je}{x:jk H×List jq}(h:DataW.trod enc ja W 0 (λ_=>true) true fuel 49 cs=jd x):
 ∃e:Chg,cs=e.cells/\(IR e.k/\IR e.d/\IR e.p/\IR e.v/\IR e.c):=by
 obtain⟨xs,n,-,-,o,p,a⟩:=DataW.trod_struct underlying49 h;have q:cs.length=5:=o.trans ae;have r:ja.cellsOf 3=1:=by kernel_rfl
 match cs,q,xs,p with
 |[v0,v1,v2,v3,v4],_,[y0,y1,y2,y3,y4],_=>
  have b:=a 0 _ rfl;have c:=a 1 _ rfl;have d:=a 2 _ rfl;have f:=a 3 _ rfl;have g:=a 4 _ rfl;simp only[jz,jA,jB,r]at b c d f g;obtain⟨s,i,-,w0⟩:=DataW.trod_int jn b;obtain⟨t,j,-,u⟩:=DataW.trod_int jn c;obtain⟨v,k,-,w⟩:=DataW.trod_int jn d;obtain⟨y,l,-,z⟩:=DataW.trod_int jn f;obtain⟨B,m,-,C⟩:=DataW.trod_int jn g;simp at i j k l m;exact⟨⟨s,t,v,y,B⟩,by rw[i,j,k,l,m];rfl,IR.of w0,IR.of u,IR.of w,IR.of z,IR.of C⟩
theorem Kg{H:Type}{enc:jm×je->H}{W:jg}{fuel:Nat}{v:je}{x:jk H×List jq}(h:DataW.trod enc ja W 0 (λ_=>true) true fuel 30 [v]=jd x):
 ∃l:List Chg,ap (·<W.heap.size) W v 5 l.length (l.flatMap Chg.cells)/\(∀x∈l,IR x.k/\IR x.d/\IR x.p/\IR x.v/\IR x.c)/\l.length<=jr:=
 nT L underlying30 ae Chg.cells (λ_=>rfl) _ (λ_ _ _ h=>LP h) h
theorem PK{H:Type}{enc:jm×je->H}{W:jg}{fuel:Nat}{cs:List je}{x:jk H×List jq}(h:DataW.trod enc ja W 0 (λ_=>true) true fuel 45 cs=jd x):
 ∃e:Mem,cs=e.cells/\(IR e.dev/\IR e.since/\IR e.ver):=by
 obtain⟨xs,n,-,-,j,k,a⟩:=DataW.trod_struct underlying45 h;have l:cs.length=3:=j.trans ae;have m:ja.cellsOf 3=1:=by kernel_rfl
 match cs,l,xs,k with
 |[v0,v1,v2],_,[y0,y1,y2],_=>
  have b:=a 0 _ rfl;have c:=a 1 _ rfl;have d:=a 2 _ rfl;simp only[jz,jA,jB,m]at b c d;obtain⟨o,f,-,w0⟩:=DataW.trod_int jn b;obtain⟨p,g,-,q⟩:=DataW.trod_int jn c;obtain⟨r,i,-,s⟩:=DataW.trod_int jn d;simp at f g i;exact⟨⟨o,p,r⟩,by rw[f,g,i];rfl,IR.of w0,IR.of q,IR.of s⟩
theorem FI{H:Type}{enc:jm×je->H}{W:jg}{fuel:Nat}{v:je}{x:jk H×List jq}(h:DataW.trod enc ja W 0 (λ_=>true) true fuel 59 [v]=jd x):
 ∃l:LBy,ap (·<W.heap.size) W v 1 l.length (l.map v8)/\l.length<=jr:=by
 obtain⟨l,c,-,d⟩:=nT (α:=BitVec 8) L underlying59 ae (λb=>[v8 b]) (λ_=>rfl) (λ_=>True) (λ_ _ _ h=>by
  obtain⟨a,rfl,-,e⟩:=DataW.trod_int underlying5 h;exact⟨jT 8 a.toNat,by rw[Cs e],trivial⟩) h
 have e:∀l:LBy,(l.flatMap λb=>[v8 b])=l.map v8:=λl=>by
  induction l with
  |nil=>rfl
  |cons b l a=>rw[jL,a];rfl
 rw[e]at c;exact⟨l,c,d⟩
theorem Ha{H:Type}{enc:jm×je->H}{W:jg}{fuel:Nat}{v:je}{x:jk H×List jq}(h:DataW.trod enc ja W 0 (λ_=>true) true fuel 31 [v]=jd x):
 ∃l:List Int,ap (·<W.heap.size) W v 1 l.length (l.map (jM .i64))/\(∀x∈l,IR x)/\l.length<=jr:=by
 obtain⟨l,c,d,f⟩:=nT (α:=Int) L underlying31 ae (λb=>[jM .i64 b]) (λ_=>rfl) (λx=>IR x) (λ_ _ _ h=>by
  obtain⟨a,rfl,-,e⟩:=DataW.trod_int jn h;exact⟨a,rfl,IR.of e⟩) h
 have e:∀l:List Int,(l.flatMap λb=>[jM .i64 b])=l.map (jM .i64):=λl=>by
  induction l with
  |nil=>rfl
  |cons b l a=>rw[jL,a];rfl
 rw[e]at c;exact⟨l,c,d,f⟩
theorem Fz{H:Type}{enc:jm×je->H}{W:jg}{fuel:Nat}{cs:List je}{x:jk H×List jq}(h:DataW.trod enc ja W 0 (λ_=>true) true fuel 72 cs=jd x):
 ∃(n:Int) (a:je) (l:LBy),cs=[.int .i64 n,a]/\IR n/\ap (·<W.heap.size) W a 1 l.length (l.map v8):=by
 obtain⟨xs,n,-,-,f,g,b⟩:=DataW.trod_struct underlying72 h;have i:cs.length=2:=f.trans ae;have j:ja.cellsOf 3=1:=by kernel_rfl
 have k:ja.cellsOf 59=1:=by kernel_rfl
 match cs,i,xs,g with
 |[v0,v1],_,[y0,y1],_=>
  have c:=b 0 _ rfl;have d:=b 1 _ rfl;simp only[jz,jA,jB,j,k]at c d;obtain⟨m,e,-,w0⟩:=DataW.trod_int jn c;obtain⟨l,o,-⟩:=FI (v:=v1) (by simpa using d);simp at e;exact⟨m,v1,l,by rw[e],IR.of w0,o⟩
theorem NW{H:Type}{enc:jm×je->H}{W:jg}{fuel:Nat}{cs:List je}{x:jk H×List jq}(h:DataW.trod enc ja W 0 (λ_=>true) true fuel 74 cs=jd x):
 ∃e:Bx×je,cs=e.1.cells e.2/\(IR e.1.node/\IR e.1.lev/\IR e.1.u)/\ap (·<W.heap.size) W e.2 1 e.1.body.length (e.1.body.map v8):=by
 obtain⟨xs,n,-,-,j,k,a⟩:=DataW.trod_struct underlying74 h;have m:cs.length=4:=j.trans ae;have o:ja.cellsOf 3=1:=by kernel_rfl
 have p:ja.cellsOf 72=2:=by kernel_rfl
 match cs,m,xs,k with
 |[v0,v1,v2,v3],_,[y0,y1,y2],_=>
  have c:=a 0 _ rfl;have d:=a 1 _ rfl;have f:=a 2 _ rfl;simp only[jz,jA,jB,o,p]at c d f;obtain⟨q,g,-,w0⟩:=DataW.trod_int jn c;obtain⟨r,i,-,s⟩:=DataW.trod_int jn d;obtain⟨t,u,l,b,v,w⟩:=Fz f;simp at g i b;exact⟨(⟨q,r,t,l⟩,u),by rw[g,i,b.1,b.2];rfl,⟨IR.of w0,IR.of s,v⟩,w⟩
theorem J1{H:Type}{enc:jm×je->H}{W:jg}{fuel:Nat}{cs:List je}{x:jk H×List jq}(h:DataW.trod enc ja W 0 (λ_=>true) true fuel 76 cs=jd x):
 ∃e:Wl×je,cs=e.1.cells e.2/\(IR e.1.dev/\IR e.1.u)/\ap (·<W.heap.size) W e.2 1 e.1.body.length (e.1.body.map v8):=by
 obtain⟨xs,n,-,-,g,i,b⟩:=DataW.trod_struct underlying76 h;have j:cs.length=3:=g.trans ae;have k:ja.cellsOf 3=1:=by kernel_rfl
 have m:ja.cellsOf 72=2:=by kernel_rfl
 match cs,j,xs,i with
 |[v0,v2,v3],_,[y0,y2],_=>
  have c:=b 0 _ rfl;have d:=b 1 _ rfl;simp only[jz,jA,jB,k,m]at c d;obtain⟨o,f,-,w0⟩:=DataW.trod_int jn c;obtain⟨p,q,l,a,r,s⟩:=Fz d;simp at f a;exact⟨(⟨o,p,l⟩,q),by rw[f,a.1,a.2];rfl,⟨IR.of w0,r⟩,s⟩
theorem uq{α:Type}(f:α->je->List je):∀(l:List (α×je)),cG f (l.map (·.1)) (l.map (·.2))=l.flatMap λe=>f e.1 e.2
 |[]=>rfl
 |e::l=>by simp only[List.map_cons,cG,jL,uq f l]
theorem yM{α:Type}{D:Nat->Prop}{w:jg}(f:α->LBy):∀(l:List (α×je)),(∀e∈l,ap D w e.2 1 (f e.1).length ((f e.1).map v8))->bR D w ((l.map (·.1)).map f) (l.map (·.2))
 |[],_=>rfl
 |e::l,h=>⟨e.2,l.map (·.2),rfl,h e (List.mem_cons_self ..),yM f l λx a=>h x (List.mem_cons_of_mem _ a)⟩
theorem Ge{H:Type}{enc:jm×je->H}{W:jg}{fuel:Nat}{f:je}{x:jk H×List jq}(D:DataW.trod enc ja W 0 (λ_=>true) true fuel 27 [f]=jd x):
 ∃t,aT W f t/\t.length<=jr:=by
 obtain⟨E,n,l,-,p⟩:=trod_struct1 underlying27 D;have q:DataW.trod enc ja W 0 (λ_=>true) true n 25 [f]=jd E:=by
  have e:ja.cellsOf 25=1:=by kernel_rfl
  simpa [Value.cells,e]using p
 rcases open_slice_pairs underlying25 underlying224 ae rfl rfl ae ae q with⟨r,l⟩|⟨a,d,s,m,n',b,c,R,S,U,V,r,-,F,X,K,-,u⟩
 ·obtain rfl:f=.slice jj 0 0:=by simpa using r
  exact⟨[],pN W,Nat.zero_le _⟩
 obtain rfl:f=.slice (jd a) d s:=by simpa using r
 have Q9:m=s:=by simpa using K
 have z:∀i,i<d->b i=.int .i64 (jv (b i))/\c i=.int .i64 (jv (c i))/\I64 (jv (b i))/\I64 (jv (c i)):=λi B=>by
  obtain⟨-,-,e,g⟩:=u i Y;obtain⟨x,h,-,j⟩:=DataW.trod_int jn e;obtain⟨y,k,-,o⟩:=DataW.trod_int jn g;have v:b i=.int .i64 x:=by simpa using h
  have w:c i=.int .i64 y:=by simpa using k
  rw[v,w];exact⟨rfl,rfl,j,o⟩
 have e:((jH d).map λi=>(jv (b i),jv (c i))).length=d:=by simp
 have M:∀j,j<d->((jH d).map λi=>(jv (b i),jv (c i))).getD j (0,0)=(jv (b j),jv (c j)):=λj k=>by
  simp[List.getD,k]
 refine⟨(jH d).map λi=>(jv (b i),jv (c i)),⟨jd a,s,by rw[e],by rw[e];exact F,λh=>(by cases h),λp=>?_,λx l=>?_⟩,by rw[e];omega⟩
 ·rw[e]at p
  obtain⟨g,o,P⟩:=a;have Q:P=jj:=by
   have h:=(u 0 Y).1
   simpa [Addr.add]using km h
  subst Q;refine⟨g,o,rfl,λj k=>?_⟩;rw[e]at k;obtain⟨C,y,-,-⟩:=u j Y;obtain⟨v,w,-,-⟩:=z j k;rw[EF]at C y;rw[M j k,C,<-v];rw[<-Nat.add_assoc]at y;exact⟨rfl,by rw[y,<-w]⟩
 obtain⟨i,B,rfl⟩:=jU.1 l;obtain⟨-,-,q,g⟩:=z i (kn.1 B);exact⟨q,g⟩
theorem Nv{H:Type}{enc:jm×je->H}{W:jg}{base:Nat}{v:je}{d:jk H}{p:List jq}(h:DataW.Trod enc ja W 0 (λ_=>true) true 29 v d p)(w:jV ja W .any base 29 v):
 ∃(g:Grp) (vm vt:je),v=.agg (aA g vm vt).toArray/\bQ W g vm vt/\(IR g.folder/\IR g.epoch)/\g.mem.length<=jr/\g.tree.length<=jr/\∀m∈g.mem,IR m.dev/\IR m.since/\IR m.ver:=by
 obtain⟨cs,rfl,ad⟩:=okWide_struct jR w;obtain⟨cl⟩:=cs;obtain⟨fuel,f⟩:=h;have x:(Value.agg ⟨cl⟩).cells.toList=cl:=rfl;rw[x]at f;obtain⟨xs,n,-,-,y,z,a⟩:=DataW.trod_struct jR f;have al:cl.length=36:=y.trans ae;have B:ja.cellsOf 3=1:=by kernel_rfl
 have i:ja.cellsOf 23=32:=by kernel_rfl
 have C:ja.cellsOf 24=1:=by kernel_rfl
 have D:ja.cellsOf 27=1:=by kernel_rfl
 match xs,z with
 |[y0,y1,y2,y3,y4],_=>
  have j:=a 0 _ rfl;have l:=a 1 _ rfl;have o:=a 2 _ rfl;have b:=a 3 _ rfl;have c:=a 4 _ rfl;simp only[jz,jA,jB,B,i,C,D]at j l o b c;obtain⟨q,r,-,w0⟩:=DataW.trod_int jn j;obtain⟨s,F,-,K⟩:=DataW.trod_int jn l;obtain⟨kb,M,P⟩:=vU jY i o;have Q:(cl.drop 34).take 1=[cl[34]]:=by rw[jw Y];rfl
  have R:(cl.drop 35).take 1=[cl[35]]:=by rw[jw Y];rfl
  rw[Q]at b;rw[R]at c;obtain⟨S,U,V,X⟩:=nT (α:=Mem) (k:=3) L underlying24 ae Mem.cells (λ_=>rfl) _ (λ_ _ _ h=>PK h) b;obtain⟨t,SY,aa⟩:=Ge c;have e:cl=.int .i64 q::.int .i64 s::(kb.map v8++[cl[34],cl[35]]):=by
   have u:cl=cl.take 1++((cl.drop 1).take 1++((cl.drop 2).take 32++cl.drop 34)):=by
    have b1:cl.drop 2=(cl.drop 2).take 32++cl.drop 34:=by
     have:=(jW 32 (cl.drop 2)).symm
     rwa [j3]at this
    have b2:cl.drop 1=(cl.drop 1).take 1++cl.drop 2:=by
     have:=(jW 1 (cl.drop 1)).symm
     rwa [j3]at this
    rw[<-b1,<-b2,jW]
   have s1:cl.drop 34=[cl[34],cl[35]]:=by
    rw[jw Y,jw Y,kw Y]
   simp only[lm]at r;rw[r,F,M,s1]at u
   simpa using u
  refine⟨⟨q,s,kb,S,t⟩,cl[34],cl[35],by unfold aA;rw[<-e],⟨EK.At.of_sl (E:=EM) U,SY,P⟩,⟨IR.of w0,IR.of K⟩,X,aa,V⟩
theorem kM{cl:List je}{o n m:Nat}(h:o+n=m):cl.drop o=(cl.drop o).take n++cl.drop m:=by
 have:=(jW n (cl.drop o)).symm
 rwa [j3,h]at this
theorem GG{H:Type}{enc:jm×je->H}{W:jg}{fuel:Nat}{cl:List je}{x:jk H×List jq}(aa:DataW.trod enc ja W 0 (λ_=>true) true fuel 37 cl=jd x):
 ∃(c:Cmt) (q:CQ),cl=ah c q/\ay (·<W.heap.size) W c q/\(IR c.folder/\IR c.epoch/\IR c.author/\IR c.r/\IR c.s)/\(c.chg.length<=jr/\∀x∈c.chg,IR x.k/\IR x.d/\IR x.p/\IR x.v/\IR x.c)/\
  (c.path.length<=jr/\∀x∈c.path,IR x)/\(c.box.length<=jr/\∀b∈c.box,IR b.node/\IR b.lev/\IR b.u)/\(c.wel.length<=jr/\∀b∈c.wel,IR b.dev/\IR b.u):=by
 obtain⟨xs,n,-,-,hl,ad,a⟩:=DataW.trod_struct jJ aa;have bk:cl.length=73:=hl.trans ae;have u:ja.cellsOf 3=1:=by kernel_rfl
 have g:ja.cellsOf 23=32:=by kernel_rfl
 have i3:ja.cellsOf 30=1:=by kernel_rfl
 have i4:ja.cellsOf 31=1:=by kernel_rfl
 have i5:ja.cellsOf 32=1:=by kernel_rfl
 have i6:ja.cellsOf 33=1:=by kernel_rfl
 have i7:ja.cellsOf 35=2:=by kernel_rfl
 match xs,ad with
 |[y0,y1,y2,y3,y4,y5,y6,y7,y8,y9],_=>
  have v:=a 0 _ rfl;have w:=a 1 _ rfl;have z:=a 2 _ rfl;have B:=a 3 _ rfl;have i:=a 4 _ rfl;have j:=a 5 _ rfl;have l:=a 6 _ rfl;have p:=a 7 _ rfl;have C:=a 8 _ rfl;have D:=a 9 _ rfl;simp only[jz,jA,jB,u,g,i3,i4,i5,i6,i7]at v w z B i j l p C D;obtain⟨a0,e0,-,w0⟩:=DataW.trod_int jn v;obtain⟨a1,e1,-,w1⟩:=DataW.trod_int jn w;obtain⟨kb,e2,al⟩:=vU jY g z;obtain⟨a3,e3,-,w3⟩:=DataW.trod_int jn B;have d:∀o (h:o<cl.length),(cl.drop o).take 1=[cl[o]]:=λo h=>by rw[jw h];rfl
  rw[d 35 Y]at i;rw[d 36 Y]at j;rw[d 37 Y]at l;rw[d 38 Y]at p;obtain⟨lc,RO,au,ZS⟩:=Kg i;obtain⟨lp,a2,a4,WO⟩:=Ha j;obtain⟨lb,a5,E,QQ⟩:=nT (α:=Bx×je) (k:=4) L underlying32 ae (λe=>e.1.cells e.2) (λ_=>rfl) _ (λ_ _ _ h=>NW h) l;obtain⟨f,ba,F,bb⟩:=nT (α:=Wl×je) (k:=3) L underlying33 ae (λe=>e.1.cells e.2) (λ_=>rfl) _ (λ_ _ _ h=>J1 h) p;obtain⟨kc,e8,bc⟩:=vU jY g C;obtain⟨zs,n9,-,-,bl,bd,r⟩:=DataW.trod_struct underlying35 D;have bf:(cl.drop 71).take 2=[cl[71],cl[72]]:=by rw[jw Y,jw Y];rfl
  rw[bf]at r
  match zs,bd with
  |[z0,z1],_=>
   have K:=r 0 _ rfl;have M:=r 1 _ rfl;simp only[jz,jA,jB,u]at K M;obtain⟨P,er,-,wr⟩:=DataW.trod_int jn K;obtain⟨Q,es,-,ws⟩:=DataW.trod_int jn M;have bg:cl[71]=.int .i64 P:=by simpa using er
   have bh:cl[72]=.int .i64 Q:=by simpa using es
   have e:cl=ah ⟨a0,a1,kb,a3,lc,lp,lb.map (·.1),f.map (·.1),kc,P,Q⟩ ⟨cl[35],cl[36],cl[37],cl[38]⟩:=by
    have s:=kM (cl:=cl) (o:=0) (n:=1) (m:=1) rfl;have t:=kM (cl:=cl) (o:=1) (n:=1) (m:=2) rfl;have y:=kM (cl:=cl) (o:=2) (n:=32) (m:=34) rfl;have R:=kM (cl:=cl) (o:=34) (n:=1) (m:=35) rfl;have S:=kM (cl:=cl) (o:=35) (n:=1) (m:=36) rfl;have U:=kM (cl:=cl) (o:=36) (n:=1) (m:=37) rfl;have V:=kM (cl:=cl) (o:=37) (n:=1) (m:=38) rfl;have X:=kM (cl:=cl) (o:=38) (n:=1) (m:=39) rfl;have b8:=kM (cl:=cl) (o:=39) (n:=32) (m:=71) rfl;have b9:cl.drop 71=[cl[71],cl[72]]:=by
     rw[jw Y,jw Y,kw Y]
    rw[e0]at s;rw[e1]at t;rw[e2]at y;rw[e3]at R;rw[d 35 Y]at S;rw[d 36 Y]at U;rw[d 37 Y]at V;rw[d 38 Y]at X;rw[e8,b9,bg,bh]at b8;rw[lm]at s;refine s.trans ?_;rw[t,y,R,S,U,V,X,b8]
    rfl
   refine⟨_,_,e,⟨RO,a2,⟨lb.map (·.2),?_,?_⟩,⟨f.map (·.2),?_,?_⟩,al,bc⟩,⟨IR.of w0,IR.of w1,IR.of w3,IR.of wr,IR.of ws⟩,⟨ZS,au⟩,⟨WO,a4⟩,⟨?_,?_⟩,⟨?_,?_⟩⟩
   ·show ap _ _ _ 4 (lb.map (·.1)).length (cG Bx.cells (lb.map (·.1)) _)
    rw[uq,jG];exact a5
   ·exact yM Bx.body lb λx s=>(E x s).2
   ·show ap _ _ _ 3 (f.map (·.1)).length (cG Wl.cells (f.map (·.1)) _)
    rw[uq,jG];exact ba
   ·exact yM Wl.body f λx s=>(F x s).2
   ·show(lb.map (·.1)).length<=_
    rw[jG];exact QQ
   ·intro b s
    obtain⟨y,t,rfl⟩:=jU.1 s;exact(E y t).1
   ·show(f.map (·.1)).length<=_
    rw[jG];exact bb
   intro b s;obtain⟨y,t,rfl⟩:=jU.1 s;exact(F y t).1
end
section
open Go.RowKit Go.ChangeShapes Go.WideShapes Go.Deep
theorem II{H:Type}{enc:jm×je->H}{W:jg}{base:Nat}{v:je}{d:jk H}{p:List jq}(h:DataW.Trod enc ja W 0 (λ_=>true) true 37 v d p)(g:jV ja W .any base 37 v):
 ∃(c:Cmt) (q:CQ),v=.agg (ah c q).toArray/\ay (·<W.heap.size) W c q/\tQ c/\c.box.length<=jr/\c.wel.length<=jr:=by
 obtain⟨cs,rfl,n⟩:=okWide_struct jJ g;obtain⟨cl⟩:=cs;obtain⟨fuel,a⟩:=h;have i:(Value.agg ⟨cl⟩).cells.toList=cl:=rfl;rw[i]at a;obtain⟨c,q,e,j,k,l,m,b,f⟩:=GG a;exact⟨c,q,by rw[e],j,⟨k,l.2,m.2,b.2,f.2⟩,b.1,f.1⟩
theorem commitsMembers_w{H:Type}{enc:jm×je->H}{W:jg}{base:Nat}(a:je)(f:jk H)(h:List jq)(i:DataW.Trod enc ja W 0 (λ_=>true) true 29 a f h)(j:jV ja W .any base 29 a)
 (b:je) (k:jk H) (l:List jq) (m:DataW.Trod enc ja W 0 (λ_=>true) true 37 b k l) (n:jV ja W .any base 37 b) (d:Int) (B:(Lit.int .i64 d).wf=true) (o:laidMetH ja sf W):
 jp ja 3 #[a,b,.int .i64 d] W λe p=>e=.returned (.bool true)/\jl W W p:=by
 obtain⟨g,vm,vt,rfl,r,C,u,v,-⟩:=Nv i j;obtain⟨c,q,rfl,w,x,y,z⟩:=II m n;obtain⟨t,s⟩:=Im o;exact OD g vm vt c q d W r w x u v y z ⟨t,s⟩
end

end Go.Proofs.YthpmekcffpppkaaGreatDoor
