/- Texts of the proof, part 8 of 8 (Nd Ni Nj Hx Nl Zza). -/
import Derived.Lib.LaidTab
import Derived.Test.YtpfafeammikibaaGreatDoorRows
import Derived.Test.YtpfafeammikibaaGreatDoorTie
import Derived.LaidMore
import Derived.Stop.LaidErr
import Derived.MakeChecks
import Derived.ProofKit
import Derived.Deep.SlicePairs
import Derived.Deep.Slices
import Derived.ChangeSlices
import Derived.ChangeArms
import Derived.OpenShut
import Derived.WideShapes
import Derived.Below
import Derived.Test.YtpfafeammikibaaGreatDoorZB1
import Derived.Test.YtpfafeammikibaaGreatDoorZB3
import Derived.Test.YtpfafeammikibaaGreatDoorZB4
import Derived.Test.YtpfafeammikibaaGreatDoorZB5
import Derived.Test.YtpfafeammikibaaGreatDoorZB6
import Derived.Test.YtpfafeammikibaaGreatDoorZB7
namespace Go.Proofs.YtpfafeammikibaaGreatDoor
set_option maxHeartbeats 64000000
set_option maxRecDepth 100000
set_option linter.unusedVariables false
set_option linter.unusedSimpArgs false
open Go.RowKit
open Go.Proofs.Tryz
open Go.RowKit renaming Hid->hF,Below->jo
open Go.Value renaming slice->hH,agg->jd,string->jk
open Go.Proofs.Tryz renaming prog->hK
open _root_.Option renaming some->hQ,none->jf,bind_some->jJ,map_eq_some_iff->jK
open Go renaming Value->hU,World->ih,wpList_plain->jb,DataW->jc,TypeId->je,MemPlace->jg,maxLen->ji,wp_region_lit->jl,Calls->jm,below_setRow->jv,setRow_heap->jw,wp_store_row->jy
open Go.Obj renaming cells->hZ
open _root_.Nat renaming lt_of_lt_of_le->ic,le_of_eq->jp
open Go.Value renaming int->ii
open Go.IntKind renaming i64->ja
open Go.Proofs.Tryz renaming underlying3->jh,underlying31->jj,underlying267->jI
open Go.World renaming alloc_heap_new->jn
open Go.Value renaming int->jq,okWide->jH
open _root_.List renaming drop_eq_getElem_cons->jr,getElem_toArray->js,getElem_cons_zero->jt,getElem_cons_succ->ju,range->jB,length_map->jC,getElem?_eq_none->jD,getElem?_eq_getElem->jE,mem_map->jF,flatMap_cons->jG,ext_getElem?->jL,getElem?_map->jM
open Go.Ending renaming returned->jz
open _root_.BitVec renaming ofNat->jA
theorem rk.of{c:Cmt}(a:IR c.folder/\IR c.epoch/\IR c.author/\IR c.r/\IR c.s)(d:∀x∈c.chg,IR x.k/\IR x.d/\IR x.p/\IR x.v/\IR x.c)(e:∀x∈c.path,IR x)(f:∀b∈c.box,IR b.node/\IR b.lev/\IR b.u)(g:∀b∈c.wel,IR b.dev/\IR b.u):rk c:=⟨a,d,e,f,g⟩
theorem zw{b:LBy}{c:Cmt}(h:eU b=hQ c):∃v,dec b=hQ v/\fx v=hQ c:=by
 unfold eU at h
 cases h1:dec b with
 |none=>rw[h1]at h;cases h
 |some v=>
  rw[h1,jJ]at h
  cases h2:fx v with
  |none=>rw[h2]at h;cases h
  |some d=>
   rw[h2,jJ]at h
   split at h
   ·injection h with h;subst h;exact⟨v,rfl,h2⟩
   cases h
theorem Hm(c:Cmt)(q:CQ)(r:LBy)(s:Option Addr)(m t:Nat)(w:ih)(a:az (·<w.heap.size) w c q)(C:rk c)(l3:c.box.length<=ji)(l4:c.wel.length<=ji)
 (E:m=r.length) (F:ah (·<w.heap.size) w (hH s m t) 1 m (r.map v8)) (lr:m<=ji) (H:fV w):
 jm hK 3 #[jd (aj c q).toArray,hH s m t] w λe w'=>e=jz (.bool true)/\jo w w w':=by
 replace lr:m<=9223372036854775807:=lr;have d:=af w (hZ (aj c q).toArray 31);have j:=jn w (hZ (aj c q).toArray 31);have k:=eO c q a.plen a.clen;have u:=mg a;have QT:=O a.plen;have RN:=O a.clen;have y:hF (∀(W:ih),az (·<W.heap.size) W c q->jm hK 5 #[jd (aj c q).toArray] W λe w'=>(∃b,e=jz (.bool b)/\(b=true->vK c))/\jo W W w'):=O (λW h=>IY c q W h l3 l4);have HN:=O E;have HT:=O H;have K:=O C;obtain⟨b,v⟩:=J w.heap.size;have l:=O (a.below d);have n:hF (ah (·<(w.alloc (hZ (aj c q).toArray 31)).heap.size) (w.alloc (hZ (aj c q).toArray 31)) (hH s m t) 1 m (r.map v8)):=O ((F.keep λg f=>d.block g f).mono λg f=>ic f d.size);obtain⟨Q,z⟩:=J ((aj c q).toArray);rw[<-z]at d j l n y k u⊢;obtain⟨x1,x⟩:=J (w.alloc (hZ Q 31));rw[<-x]at d j l n;rw[<-v]at j;have M:=O x;have P:=O v;have B:=O d;have R:=O j;have S:=l;have U:=n;have HA:=O z;have a5:hF ((hK.info? 31).map (·.size)=hQ Q.size):=O (by rw[k];exact dZ);have cw:=O u;have cb:hF (ZC.size=Q.size):=O (by rw[k];exact iM);obtain⟨o,p⟩:=J ZC;rw[<-p]at cb;have bd:hF (∀w:ih,(Instr.alloc 31 true (.tuple #[])).run hK w=.ok (.pointer (hQ ⟨w,0,jf⟩)) (w.alloc (hZ o 31))):=O (by rw[p];exact Az);have bf:=O p;clear d j k u a C E F H v z x p l n
 go_enter func3,ntmps3
 go_upto_region 1 with fail
 rw[<-M,<-P];clear M P;refine jl ?_;refine jb rfl λ_ j=>?_
 go_simp;refine(Kl x1 (HT.below B)).mono ?_;rintro e x2 ⟨rfl,a⟩;have k:=Z R a;have p:=ac B a;have l:=O (S.below a);have C:hF (ah (·<x2.heap.size) x2 (hH s m t) 1 m (r.map v8)):=O ((U.keep λg f=>a.block g f).mono λg f=>ic f a.size);clear a R B S U;refine j _ _ ?_;clear j;refine L ?_;refine aO ?_
 go_upto_region 3 with fail
 refine jl ?_;refine cN (v:=jd Q) ag (bJ jj rfl a5 rfl rfl k) ?_;refine L ?_;refine jb rfl λ_ j=>?_
 go_simp;refine(y x2 l).mono ?_;rintro e x3 ⟨⟨cc,rfl,n⟩,a⟩;have u:=Z k a;have d:=ac p a;have z:=O (l.below a);have B:hF (ah (·<x3.heap.size) x3 (hH s m t) 1 m (r.map v8)):=O ((C.keep λg f=>a.block g f).mono λg f=>ic f a.size);clear a k p l C;refine j _ _ ?_;clear j;refine L ?_
 rcases cc with _|_
 ·clear n
  go_wp2_with fail
  go_ret;exact⟨rfl,d⟩
 have k:=JX (n rfl) K QT RN;have PP:=O k;have a1:=O k.encOk;clear k n y K
 by_cases k:6000<m
 case pos=>
  have cd:=ap ((6000:Int)<(m:Int));clear k
  go_wp2_with fail
  go_ret;exact⟨rfl,d⟩
 have cd:=ar ((6000:Int)<(m:Int));have H6:hF (m<=6000):=O Y;clear k
 go_upto_region 5 with fail
 have ce:hF (∀(W:ih),az (·<W.heap.size) W c q->jm hK 6 #[jd Q] W (uz c W)):=O (λW h=>by rw[HA];exact rl c q W h a1);have S4:hF (∀(W:ih),az (·<W.heap.size) W c q->jm hK 7 #[jd Q] W λe w'=>e=jz (ii ja (en c))/\jo W W w'):=O (λW h=>by rw[HA];exact uP c q W h a1);have WW:hF (∀(l:LBy) (p:Option Addr) (n k:Nat) (W:ih),ah (·<W.heap.size) W (hH p n k) 1 l.length (l.map v8)->l.length<=800000->jm hK 8 #[hH p n k] W (tY W (eU l))):=O (λl p n k W h y=>Ey l p n k W h y);refine jl ?_;refine cN (v:=jd Q) ag (bJ jj rfl a5 rfl rfl u) ?_;refine L ?_;refine jb rfl λ_ j=>?_
 go_simp;refine(ce x3 z).mono ?_;rintro e x4 ⟨al,K,a⟩;have ZS:=Z u a;have Pf:=ac d a;have ba:=O (z.below a);have bq:hF (ah (·<x4.heap.size) x4 (hH s m t) 1 m (r.map v8)):=O ((B.keep λg f=>a.block g f).mono λg f=>ic f a.size);clear a u d z B
 by_cases hk:eG c
 case neg=>
  rw[K hk];have Pm:hF (en c=220):=O (dM hk);clear K al hk;refine j _ _ ?_;clear j;refine L ?_;iterate 5 refine aO ?_
  go_upto_region 6 with fail
  refine jl ?_;refine aO ?_;refine cN (v:=jd Q) ag (bJ jj rfl a5 rfl rfl ZS) ?_;refine L ?_;have H:=S4 x4 ba;rw[Pm]at H;refine jb rfl λ_ j=>?_
  go_simp;refine(H).mono ?_;rintro e x5 ⟨rfl,a⟩;have bg:=Z ZS a;have Pk:=ac Pf a;have bh:=O (ba.below a);have Z3:hF (ah (·<x5.heap.size) x5 (hH s m t) 1 m (r.map v8)):=O ((bq.keep λg f=>a.block g f).mono λg f=>ic f a.size);clear a ZS Pf ba bq;clear H;refine j _ _ ?_;clear j;refine L ?_;refine aO ?_
  go_upto_region 13 with fail
  refine jl ?_;refine aO ?_;have au:=WW r s m t x5 (by rw[<-HN];exact Z3) (by rw[<-HN];have:=H6.out;omega);refine jb rfl λ_ j=>?_
  go_simp;refine au.mono ?_;rintro e u ⟨a,hm⟩;clear au;have V:=Z bg a;have Qf:=ac Pk a;have a2:=O (bh.below a);have a3:hF (ah (·<u.heap.size) u (hH s m t) 1 m (r.map v8)):=O ((Z3.keep λg f=>a.block g f).mono λg f=>ic f a.size);clear a bg Pk bh Z3;obtain⟨od,a4⟩:=J (eU r);rw[<-a4]at hm;have bk:=O a4;clear a4
  rcases od with _|d
  ·obtain⟨ne,aa,rfl⟩:=hm
   obtain⟨B,U⟩:=J ((aj dG eX).toArray);have bu:hF ((hK.info? 31).map (·.size)=hQ B.size):=O (by rw[U];kernel_rfl);have bv:hF (o.size=B.size):=O (by rw[U,bf];kernel_rfl);have bw:hF (B.all (·.oneCell')=true):=O (by rw[U];exact mg (D:=λ_=>True) (w:=u) tA);have bA:hF (B[36]?=hQ (hH jf 0 0)):=O (by rw[U];rfl);rw[<-U];clear U;have cf:(ne==0)=false:=by simpa using aa
   have cj:decide (ne=0)=false:=by simpa using aa
   have ck:(ne !=0)=true:=by simpa using aa
   have cm:(!decide (ne=0))=true:=by simpa using aa
   clear aa;refine j _ _ ?_;clear j;refine L ?_;iterate 3 refine aO ?_
   have n:=jn u (hZ o 31);obtain⟨R,f⟩:=J u.heap.size;rw[<-f]at n;have a:=jv (af u (hZ o 31)) (jp f.symm) B;have y:=jw (u.alloc (hZ o 31)) R _ B _ _ n;refine jb rfl λ_ j=>fu 31 rfl o bd (j _ _ ?_)
   clear j;rw[<-f];refine L ?_;refine jb rfl λ_ j=>jy 31 _ _ rfl R B rfl rfl 31 o n bu bv bw (j _ _ ?_)
   clear j n f;refine L ?_;obtain⟨x7,x⟩:=J ((u.alloc (hZ o 31)).setRow R B);rw[<-x]at a y⊢;clear x;have bb:=Z V a;have RX:=ac Qf a;have Zz:=O (a2.below a);have bc:hF (ah (·<x7.heap.size) x7 (hH s m t) 1 m (r.map v8)):=O ((a3.keep λg f=>a.block g f).mono λg f=>ic f a.size);clear a V Qf a2 a3;have l:=O y;clear y;refine aO ?_;have cn:=cell_of l bA
   go_wp2_with fail
   go_ret;exact⟨rfl,RX⟩
  obtain⟨C,rfl,E⟩:=hm;obtain⟨bl,Up⟩:=zg bk.symm;have bm:dy (aA d):=by
   obtain⟨v,z,bB⟩:=zw bk.symm;exact(wT (by rw[<-HN];have:=H6.out;omega) z bB).1
  have P:hF (az (·<u.heap.size) u d C):=O (E.mono λg f=>f.2);obtain⟨F,X⟩:=J ((aj d C).toArray);have ad:=eO d C E.plen E.clen;have bn:hF ((hK.info? 31).map (·.size)=hQ F.size):=O (by rw[X,ad];exact dZ);have bC:hF (o.size=F.size):=O (by rw[X,ad,bf];exact iM);have bI:hF (F.all (·.oneCell')=true):=O (by rw[X];exact mg E);rw[<-X];have SY:=O X;have bK:=O Up;have bM:=O bl;have Rb:=O bm;clear X ad E bl Up bm;refine j _ _ ?_;clear j;refine L ?_;iterate 3 refine aO ?_
  have n:=jn u (hZ o 31);obtain⟨R,f⟩:=J u.heap.size;rw[<-f]at n;have a:=jv (af u (hZ o 31)) (jp f.symm) F;have y:=jw (u.alloc (hZ o 31)) R _ F _ _ n;refine jb rfl λ_ j=>fu 31 rfl o bd (j _ _ ?_)
  clear j;rw[<-f];refine L ?_;refine jb rfl λ_ j=>jy 31 _ _ rfl R F rfl rfl 31 o n bn bC bI (j _ _ ?_)
  clear j n f;refine L ?_;obtain⟨x7,x⟩:=J ((u.alloc (hZ o 31)).setRow R F);rw[<-x]at a y⊢;clear x;have bb:=Z V a;have RX:=ac Qf a;have Zz:=O (a2.below a);have bc:hF (ah (·<x7.heap.size) x7 (hH s m t) 1 m (r.map v8)):=O ((a3.keep λg f=>a.block g f).mono λg f=>ic f a.size);have M:=O (P.below a);clear a V Qf a2 a3 P;have l:=O y;clear y;refine aO ?_
  go_upto_region 16 with fail
  refine jl ?_;refine cN (v:=jd F) ag (bJ jj rfl bn rfl rfl l) ?_;refine L ?_;have Y5:=rl d C x7 M Rb;rw[<-SY]at Y5;refine jb rfl λ_ j=>?_
  go_simp;refine Y5.mono ?_;rintro e S ⟨al,-,a⟩;clear Y5;have bN:=Z bb a;have Qg:=ac RX a;have bO:=O (Zz.below a);have br:hF (ah (·<S.heap.size) S (hH s m t) 1 m (r.map v8)):=O ((bc.keep λg f=>a.block g f).mono λg f=>ic f a.size);have P:=O (M.below a);have bs:=Z l a;clear a bb RX Zz bc M l;obtain⟨v,rfl,z⟩:=al bM;clear al;rw[bK]at z;obtain⟨p2,k2,rfl⟩:=aL z;have S2:BytesAt S (hH p2 r.length k2) r:=(ah.of_own (D:=λ_=>True) z (λg f=>trivial)).bytes;have bo:BytesAt S (hH s m t) r:=(by have h:=br.out;rw[HN]at h⊢;exact h.bytes);rw[<-HN]at S2⊢;have Wq:=O S2;have bT:=O bo;clear z S2 bo;refine j _ _ ?_;clear j;refine L ?_;iterate 5 refine aO ?_
  go_upto_region 17 with fail
  have k1:=gI Wq;have k2:=gI bT
  go_wp2_with fail
  go_ret;exact⟨rfl,Qg⟩
 obtain⟨v,rfl,z⟩:=al hk;have Pm:hF (en c=0):=O (oD hk);have Q3:=O hk;clear K al hk;obtain⟨l,K⟩:=J (enc (vL (aA c)));rw[<-K]at z;have Zl:=O K;clear K;obtain⟨K,M,rfl⟩:=aL z;obtain⟨P,bs⟩:=J l.length;rw[<-bs];have Wm:=O bs;have b0:hF (ah (·<x4.heap.size) x4 (hH K P M) 1 l.length (l.map v8)):=O (by rw[bs];exact ah.of_own z (λg f=>(z.lt g f).2));clear z bs;refine j _ _ ?_;clear j;refine L ?_;iterate 5 refine aO ?_
 go_upto_region 6 with fail
 refine jl ?_;refine aO ?_;refine cN (v:=jd Q) ag (bJ jj rfl a5 rfl rfl ZS) ?_;refine L ?_;have H:=S4 x4 ba;rw[Pm]at H;refine jb rfl λ_ j=>?_
 go_simp;refine(H).mono ?_;rintro e x5 ⟨rfl,a⟩;have bg:=Z ZS a;have Pk:=ac Pf a;have bh:=O (ba.below a);have Z3:hF (ah (·<x5.heap.size) x5 (hH s m t) 1 m (r.map v8)):=O ((bq.keep λg f=>a.block g f).mono λg f=>ic f a.size);have bs:hF (ah (·<x5.heap.size) x5 (hH K P M) 1 l.length (l.map v8)):=O ((b0.keep λg f=>a.block g f).mono λg f=>ic f a.size);clear a ZS Pf ba bq b0;clear H;refine j _ _ ?_;clear j;refine L ?_;refine aO ?_
 go_upto_region 9 with fail
 refine jl ?_;refine aO ?_;have QY:eU l=hQ c:=by rw[Zl];exact AF c QT RN a1 Q3
 have H:l.length<=800000:=by rw[Zl];exact a1.len
 have au:=WW l K P M x5 bs H;rw[QY]at au;have Yi:=O H;clear QY H;refine jb rfl λ_ j=>?_
 go_simp;refine au.mono ?_;rintro e u ⟨a,C,rfl,E⟩;clear au;have V:=Z bg a;have Qf:=ac Pk a;have a2:=O (bh.below a);have a3:hF (ah (·<u.heap.size) u (hH s m t) 1 m (r.map v8)):=O ((Z3.keep λg f=>a.block g f).mono λg f=>ic f a.size);have ba:hF (ah (·<u.heap.size) u (hH K P M) 1 l.length (l.map v8)):=O ((bs.keep λg f=>a.block g f).mono λg f=>ic f a.size);clear a bg Pk bh Z3 bs;have bg:hF (az (·<u.heap.size) u c C):=O (E.mono λg f=>f.2);obtain⟨AE,H⟩:=J ((aj c C).toArray);have ad:=eO c C E.plen E.clen;have b0:hF ((hK.info? 31).map (·.size)=hQ AE.size):=O (by rw[H,ad];exact dZ);have cp:hF (o.size=AE.size):=O (by rw[H,ad,bf];exact iM);have cq:hF (AE.all (·.oneCell')=true):=O (by rw[H];exact mg E);rw[<-H];have Sc:=O H;clear H ad E;refine j _ _ ?_;clear j;refine L ?_;iterate 3 refine aO ?_
 have n:=jn u (hZ o 31);obtain⟨Pd,f⟩:=J u.heap.size;rw[<-f]at n;have a:=jv (af u (hZ o 31)) (jp f.symm) AE;have y:=jw (u.alloc (hZ o 31)) Pd _ AE _ _ n;refine jb rfl λ_ j=>fu 31 rfl o bd (j _ _ ?_)
 clear j;rw[<-f];refine L ?_;refine jb rfl λ_ j=>jy 31 _ _ rfl Pd AE rfl rfl 31 o n b0 cp cq (j _ _ ?_)
 clear j n f;refine L ?_;obtain⟨x7,x⟩:=J ((u.alloc (hZ o 31)).setRow Pd AE);rw[<-x]at a y⊢;clear x;have bb:=Z V a;have RX:=ac Qf a;have Zz:=O (a2.below a);have bc:hF (ah (·<x7.heap.size) x7 (hH s m t) 1 m (r.map v8)):=O ((a3.keep λg f=>a.block g f).mono λg f=>ic f a.size);have H:hF (ah (·<x7.heap.size) x7 (hH K P M) 1 l.length (l.map v8)):=O ((ba.keep λg f=>a.block g f).mono λg f=>ic f a.size);have bh:=O (bg.below a);clear a V Qf a2 a3 ba bg;have a3:=O y;clear y;refine aO ?_
 go_upto_region 10 with fail
 refine jl ?_;refine aO ?_;have V:=Dl l K P M x7 H (aw Yi);rw[show dec l=hQ (vL (aA c))from by rw[Zl];exact CP _ a1.wf]at V;refine jb rfl λ_ j=>?_
 go_simp;refine V.mono ?_;rintro e S ⟨a,cr,rfl,a2⟩;clear V;have bN:=Z bb a;have Qg:=ac RX a;have bO:=O (Zz.below a);have br:hF (ah (·<S.heap.size) S (hH s m t) 1 m (r.map v8)):=O ((bc.keep λg f=>a.block g f).mono λg f=>ic f a.size);have ba:hF (ah (·<S.heap.size) S (hH K P M) 1 l.length (l.map v8)):=O ((H.keep λg f=>a.block g f).mono λg f=>ic f a.size);have bg:=O (bh.below a);have bq:=Z a3 a;clear a bb RX Zz bc H bh a3;obtain⟨pu,ku,rfl⟩:∃p k,cr=hH p 11 k:=by
  rw[vL,ao]at a2;obtain⟨V,H,-⟩:=a2;obtain⟨p,k,e⟩:=H.form;exact⟨p,k,by rw[e,oW]⟩
 clear a2;refine j _ _ ?_;clear j;refine L ?_;iterate 3 refine aO ?_
 have n:=jn S (hZ #[ii ja 0,ii ja 0,jk ⟨#[]⟩,hH jf 0 0] 43);obtain⟨V,f⟩:=J S.heap.size;rw[<-f]at n;have a:=jv (af S (hZ #[ii ja 0,ii ja 0,jk ⟨#[]⟩,hH jf 0 0] 43)) (jp f.symm) #[ii ja 3,ii ja 0,jk ⟨#[]⟩,hH pu 11 ku];have y:=jw (S.alloc (hZ #[ii ja 0,ii ja 0,jk ⟨#[]⟩,hH jf 0 0] 43)) V _ #[ii ja 3,ii ja 0,jk ⟨#[]⟩,hH pu 11 ku] _ _ n;refine jb rfl λ_ j=>fu 43 rfl #[ii ja 0,ii ja 0,jk ⟨#[]⟩,hH jf 0 0] (λw=>by kernel_rfl) (j _ _ ?_)
 clear j;rw[<-f];refine L ?_;refine jb rfl λ_ j=>jy 43 _ _ rfl V #[ii ja 3,ii ja 0,jk ⟨#[]⟩,hH pu 11 ku] rfl rfl 43 #[ii ja 0,ii ja 0,jk ⟨#[]⟩,hH jf 0 0] n ae rfl (by simp[Value.oneCell']) (j _ _ ?_)
 clear j n f;refine L ?_;obtain⟨x9,x⟩:=J ((S.alloc (hZ #[ii ja 0,ii ja 0,jk ⟨#[]⟩,hH jf 0 0] 43)).setRow V #[ii ja 3,ii ja 0,jk ⟨#[]⟩,hH pu 11 ku]);rw[<-x]at a y⊢;clear x;have a2:=Z bN a;have Qx:=ac Qg a;have bh:=O (bO.below a);have bs:hF (ah (·<x9.heap.size) x9 (hH s m t) 1 m (r.map v8)):=O ((br.keep λg f=>a.block g f).mono λg f=>ic f a.size);have b1:hF (ah (·<x9.heap.size) x9 (hH K P M) 1 l.length (l.map v8)):=O ((ba.keep λg f=>a.block g f).mono λg f=>ic f a.size);have b2:=O (bg.below a);have cs:=Z bq a;clear a bN Qg bO br ba bg bq;have ct:=O y;clear y;refine aO ?_
 go_upto_region 11 with fail
 have bg:∀(W:ih),az (·<W.heap.size) W c C->az (·<W.heap.size) W c q->jm hK 10 #[jd AE,jd Q] W λe w'=>e=jz (.bool true)/\jo W W w':=λW h1 h2=>by
  rw[HA,Sc];have H:=a1.out;have h:=BX c c C q W h1 h2 H H.lens.1 H.lens.2.1 H.lens.2.2.1 H.lens.2.2.2;rw[ts rfl]at h;exact h
 have a3:∀(W:ih),fV W->az (·<W.heap.size) W c C->jm hK 11 #[jd AE] W λe w'=>e=jz (jd ((idC c).map v8).toArray)/\jo W W w':=λW ht h=>by
  rw[Sc];exact sd c C W h a1 ht.s.dig
 have ba:∀(W:ih),fV W->az (·<W.heap.size) W c q->jm hK 11 #[jd Q] W λe w'=>e=jz (jd ((idC c).map v8).toArray)/\jo W W w':=λW ht h=>by
  rw[HA];exact sd c q W h a1 ht.s.dig
 have SS:=AV (idC c) (pg c);obtain⟨DC,bq⟩:=J (((idC c).map v8).toArray);rw[<-bq]at a3 ba SS;have SG:=O bg;have cu:=O a3;have cv:=O ba;have WV:=O SS;have H:hF (x9.heap[b]?=hQ (hZ Q 31 (0,0))/\x9.heap[Pd]?=hQ (hZ AE 31 (0,0))/\x9.heap[V]?=hQ (hZ #[ii ja 3,ii ja 0,jk ⟨#[]⟩,hH pu 11 ku] 43 (0,0))):=O ⟨a2,cs,ct⟩;clear bg a3 ba SS bq;have a:=aQ x9;refine wp_region_noPanic ?_;refine aY (λW'=>W'.heap[b]?=hQ (hZ Q 31 (0,0))/\W'.heap[Pd]?=hQ (hZ AE 31 (0,0))/\W'.heap[V]?=hQ (hZ #[ii ja 3,ii ja 0,jk ⟨#[]⟩,hH pu 11 ku] 43 (0,0))) (.take 0 (.take 1 (.take 2 (.take 3 (.take 4 (.one 5 (.take 6 (.take 7 (.take 8 (.take 9 (.take 10 (.take 11 (.take 12 (.take 13 (.take 14 (.take 15 (.take 16 (.take 17 (.take 18 (.take 19 (.take 21 (.one 20 (.one 22 (.take 23 (.take 24 .done))))))))))))))))))))))))) ae ae ae G (λ_ _ _ _ h=>h) H ?_;obtain⟨VG,x⟩:=J x9.drew;rw[<-x]at a⊢;clear x;have b3:=Z a2 a;have Y4:=ac Qx a;have ba:=O (bh.below a);have b4:hF (ah (·<VG.heap.size) VG (hH s m t) 1 m (r.map v8)):=O ((bs.keep λg f=>a.block g f).mono λg f=>ic f a.size);have b5:hF (ah (·<VG.heap.size) VG (hH K P M) 1 l.length (l.map v8)):=O ((b1.keep λg f=>a.block g f).mono λg f=>ic f a.size);have bg:=O (b2.below a);have a3:=O (And.intro (ak H.1 a) (And.intro (ak H.2.1 a) (ak H.2.2 a)));clear a a2 Qx bh bs b1 b2 H;iterate 3 refine aP ?_
 (refine ay (v:=jd AE) rfl ag (λW' H=>bJ jj rfl b0 rfl rfl H.2.1) ?_;refine L ?_)
 (refine ay (v:=jd Q) rfl ag (λW' H=>bJ jj rfl a5 rfl rfl H.1) ?_;refine L ?_)
 refine ai rfl (λK' j=>?_);go_simp;refine(SG VG bg ba).mono ?_;rintro e Sd ⟨rfl,a⟩;have bs:=Z b3 a;have bh:=ac Y4 a;have b1:=O (ba.below a);have b2:hF (ah (·<Sd.heap.size) Sd (hH s m t) 1 m (r.map v8)):=O ((b4.keep λg f=>a.block g f).mono λg f=>ic f a.size);have b6:hF (ah (·<Sd.heap.size) Sd (hH K P M) 1 l.length (l.map v8)):=O ((b5.keep λg f=>a.block g f).mono λg f=>ic f a.size);have bq:=O (bg.below a);have a2:=O (And.intro (ak a3.1 a) (And.intro (ak a3.2.1 a) (ak a3.2.2 a)));clear a b3 Y4 ba b4 b5 bg a3;refine j _ _ a2.out λ_=>?_
 clear j;refine L ?_;iterate 8 refine aP ?_
 (refine ay (v:=?_) rfl ag (λW' H=>?_) ?_;rotate_left;(have kk:=cell_of H.2.2 (i:=3) rfl;go_simp;with_reducible rfl);refine L ?_)
 iterate 4 refine aP ?_
 (refine ay (v:=jd AE) rfl ag (λW' H=>bJ jj rfl b0 rfl rfl H.2.1) ?_;refine L ?_)
 (refine ay (v:=jd Q) rfl ag (λW' H=>bJ jj rfl a5 rfl rfl H.1) ?_;refine L ?_)
 refine ai rfl (λK' j=>?_);go_simp;refine(cu Sd (HT.below bh) bq).mono ?_;rintro e U8 ⟨rfl,a⟩;have b3:=Z bs a;have ba:=ac bh a;have bg:=O (b1.below a);have b4:hF (ah (·<U8.heap.size) U8 (hH s m t) 1 m (r.map v8)):=O ((b2.keep λg f=>a.block g f).mono λg f=>ic f a.size);have b5:hF (ah (·<U8.heap.size) U8 (hH K P M) 1 l.length (l.map v8)):=O ((b6.keep λg f=>a.block g f).mono λg f=>ic f a.size);have b7:=O (bq.below a);have a3:=O (And.intro (ak a2.1 a) (And.intro (ak a2.2.1 a) (ak a2.2.2 a)));clear a bs bh b1 b2 b6 bq a2;refine j _ _ a3.out λ_=>?_
 clear j;refine L ?_;refine ai rfl (λK' j=>?_);go_simp;refine(cv U8 (HT.below ba) bg).mono ?_;rintro e R6 ⟨rfl,a⟩;have b2:=Z b3 a;have b6:=ac ba a;have b8:=O (bg.below a);have b1:hF (ah (·<R6.heap.size) R6 (hH s m t) 1 m (r.map v8)):=O ((b4.keep λg f=>a.block g f).mono λg f=>ic f a.size);have b9:hF (ah (·<R6.heap.size) R6 (hH K P M) 1 l.length (l.map v8)):=O ((b5.keep λg f=>a.block g f).mono λg f=>ic f a.size);have ca:=O (b7.below a);have a2:=O (And.intro (ak a3.1 a) (And.intro (ak a3.2.1 a) (ak a3.2.2 a)));clear a b3 ba bg b4 b5 b7 a3;refine j _ _ a2.out λ_=>?_
 clear j;refine L ?_
 (refine ay (v:=?_) rfl ag (λW' H=>?_) ?_;rotate_left;(have H:=WV.out;go_simp;with_reducible rfl);refine L ?_)
 refine aP ?_;refine NoPanic.normal ?_
 go_upto_region 13 with fail
 refine jl ?_;refine aO ?_;have au:=WW r s m t R6 (by rw[<-HN];exact b1) (by rw[<-HN];have:=H6.out;omega);refine jb rfl λ_ j=>?_
 go_simp;refine au.mono ?_;rintro e H ⟨a,hm⟩;clear au;have a3:=Z b2 a;have ba:=ac b6 a;have bg:=O (b8.below a);have bh:hF (ah (·<H.heap.size) H (hH s m t) 1 m (r.map v8)):=O ((b1.keep λg f=>a.block g f).mono λg f=>ic f a.size);have bq:hF (ah (·<H.heap.size) H (hH K P M) 1 l.length (l.map v8)):=O ((b9.keep λg f=>a.block g f).mono λg f=>ic f a.size);have bs:=O (ca.below a);have au:=O (And.intro (ak a2.1 a) (And.intro (ak a2.2.1 a) (ak a2.2.2 a)));clear a b2 b6 b8 b1 b9 ca a2;obtain⟨od,a4⟩:=J (eU r);rw[<-a4]at hm;have bk:=O a4;clear a4
 rcases od with _|d
 ·obtain⟨ne,aa,rfl⟩:=hm
  obtain⟨B,U⟩:=J ((aj dG eX).toArray);have bu:hF ((hK.info? 31).map (·.size)=hQ B.size):=O (by rw[U];kernel_rfl);have bv:hF (o.size=B.size):=O (by rw[U,bf];kernel_rfl);have bw:hF (B.all (·.oneCell')=true):=O (by rw[U];exact mg (D:=λ_=>True) (w:=H) tA);have bA:hF (B[36]?=hQ (hH jf 0 0)):=O (by rw[U];rfl);rw[<-U];clear U;have cf:(ne==0)=false:=by simpa using aa
  have cj:decide (ne=0)=false:=by simpa using aa
  have ck:(ne !=0)=true:=by simpa using aa
  have cm:(!decide (ne=0))=true:=by simpa using aa
  clear aa;refine j _ _ ?_;clear j;refine L ?_;iterate 3 refine aO ?_
  have n:=jn H (hZ o 31);obtain⟨R,f⟩:=J H.heap.size;rw[<-f]at n;have a:=jv (af H (hZ o 31)) (jp f.symm) B;have y:=jw (H.alloc (hZ o 31)) R _ B _ _ n;refine jb rfl λ_ j=>fu 31 rfl o bd (j _ _ ?_)
  clear j;rw[<-f];refine L ?_;refine jb rfl λ_ j=>jy 31 _ _ rfl R B rfl rfl 31 o n bu bv bw (j _ _ ?_)
  clear j n f;refine L ?_;obtain⟨U,x⟩:=J ((H.alloc (hZ o 31)).setRow R B);rw[<-x]at a y⊢;clear x;have b1:=Z a3 a;have a4:=ac ba a;have b2:=O (bg.below a);have b3:hF (ah (·<U.heap.size) U (hH s m t) 1 m (r.map v8)):=O ((bh.keep λg f=>a.block g f).mono λg f=>ic f a.size);have b4:hF (ah (·<U.heap.size) U (hH K P M) 1 l.length (l.map v8)):=O ((bq.keep λg f=>a.block g f).mono λg f=>ic f a.size);have b5:=O (bs.below a);have aa:=O (And.intro (ak au.1 a) (And.intro (ak au.2.1 a) (ak au.2.2 a)));clear a a3 ba bg bh bq bs au;have a2:=O y;clear y;refine aO ?_;have cn:=cell_of a2 bA
  go_wp2_with fail
  go_ret;exact⟨rfl,a4⟩
 obtain⟨C,rfl,E⟩:=hm;obtain⟨bl,Up⟩:=zg bk.symm;have bm:dy (aA d):=by
  obtain⟨v,z,bB⟩:=zw bk.symm;exact(wT (by rw[<-HN];have:=H6.out;omega) z bB).1
 have B:hF (az (·<H.heap.size) H d C):=O (E.mono λg f=>f.2);obtain⟨F,X⟩:=J ((aj d C).toArray);have ad:=eO d C E.plen E.clen;have bn:hF ((hK.info? 31).map (·.size)=hQ F.size):=O (by rw[X,ad];exact dZ);have bC:hF (o.size=F.size):=O (by rw[X,ad,bf];exact iM);have bI:hF (F.all (·.oneCell')=true):=O (by rw[X];exact mg E);rw[<-X];have SY:=O X;have bK:=O Up;have bM:=O bl;have Rb:=O bm;clear X ad E bl Up bm;refine j _ _ ?_;clear j;refine L ?_;iterate 3 refine aO ?_
 have n:=jn H (hZ o 31);obtain⟨R,f⟩:=J H.heap.size;rw[<-f]at n;have a:=jv (af H (hZ o 31)) (jp f.symm) F;have y:=jw (H.alloc (hZ o 31)) R _ F _ _ n;refine jb rfl λ_ j=>fu 31 rfl o bd (j _ _ ?_)
 clear j;rw[<-f];refine L ?_;refine jb rfl λ_ j=>jy 31 _ _ rfl R F rfl rfl 31 o n bn bC bI (j _ _ ?_)
 clear j n f;refine L ?_;obtain⟨U,x⟩:=J ((H.alloc (hZ o 31)).setRow R F);rw[<-x]at a y⊢;clear x;have b1:=Z a3 a;have a4:=ac ba a;have b2:=O (bg.below a);have b3:hF (ah (·<U.heap.size) U (hH s m t) 1 m (r.map v8)):=O ((bh.keep λg f=>a.block g f).mono λg f=>ic f a.size);have b4:hF (ah (·<U.heap.size) U (hH K P M) 1 l.length (l.map v8)):=O ((bq.keep λg f=>a.block g f).mono λg f=>ic f a.size);have b5:=O (bs.below a);have aa:=O (And.intro (ak au.1 a) (And.intro (ak au.2.1 a) (ak au.2.2 a)));have x:=O (B.below a);clear a a3 ba bg bh bq bs au B;have a2:=O y;clear y;refine aO ?_
 go_upto_region 16 with fail
 refine jl ?_;refine cN (v:=jd F) ag (bJ jj rfl bn rfl rfl a2) ?_;refine L ?_;have Y5:=rl d C U x Rb;rw[<-SY]at Y5;refine jb rfl λ_ j=>?_
 go_simp;refine Y5.mono ?_;rintro e n ⟨al,-,a⟩;clear Y5;have E:=Z b1 a;have y:=ac a4 a;have X:=O (b2.below a);have B:hF (ah (·<n.heap.size) n (hH s m t) 1 m (r.map v8)):=O ((b3.keep λg f=>a.block g f).mono λg f=>ic f a.size);have ad:hF (ah (·<n.heap.size) n (hH K P M) 1 l.length (l.map v8)):=O ((b4.keep λg f=>a.block g f).mono λg f=>ic f a.size);have au:=O (b5.below a);have a3:=O (And.intro (ak aa.1 a) (And.intro (ak aa.2.1 a) (ak aa.2.2 a)));have ba:=O (x.below a);have bg:=Z a2 a;clear a b1 a4 b2 b3 b4 b5 aa x a2;obtain⟨v,rfl,z⟩:=al bM;clear al;rw[bK]at z;obtain⟨p2,k2,rfl⟩:=aL z;have S2:BytesAt n (hH p2 r.length k2) r:=(ah.of_own (D:=λ_=>True) z (λg f=>trivial)).bytes;have bo:BytesAt n (hH s m t) r:=(by have h:=B.out;rw[HN]at h⊢;exact h.bytes);rw[<-HN]at S2⊢;have Wq:=O S2;have bT:=O bo;clear z S2 bo;refine j _ _ ?_;clear j;refine L ?_;iterate 5 refine aO ?_
 go_upto_region 17 with fail
 have k1:=gI Wq;have k2:=gI bT
 go_wp2_with fail
 go_ret;exact⟨rfl,y⟩
def sa{H:Type}(a:List (List UInt8)):jc H:=.agg (a.map λz=>.lit (.string z))
theorem Kt{H:Type}{enc:je×hU->H}{P:Program}{w:ih}{base:Nat}{g:Nat->Bool}{j:Bool}{fuel:Nat}{t e:je}{n:Nat}{cs:List hU}{a:List (List UInt8)}{p:List jg}
 (k:P.underlying t=hQ (.array n e)) (he:P.underlying e=hQ .string) (l:P.cellsOf e=1) (m:P.cellsOf t=n)
 (h:DataW.trod enc P w base g j fuel t cs=hQ (sa a,p)):cs=a.map λz=>Value.string ⟨z.toArray⟩:=by
 rcases fuel with _|fuel
 ·simp[DataW.trod]at h
 simp only[DataW.trod,k,l,m,Nat.mul_one]at h
 split at h
 ·rename_i C
  obtain⟨xs,d,o⟩:=jK.1 h;have f:xs.map (·.1)=a.map λz=>(DataW.lit (.string z):jc H):=by
   have:=congrArg Prod.fst o
   simpa [sa]using this
  have D:xs.length=n:=by simpa using Lib.mapM_length d
  have E:a.length=n:=by
   have:=congrArg List.length f;simp at this;omega
  apply jL
  intro i
  by_cases q:i<n
  ·obtain⟨b,r,u⟩:=Lib.mapM_at d i i (by simp[q])
   obtain⟨s,v,rfl,-⟩:=DataW.trod_string he u;have x:cs[i]?=hQ (.string s):=by
    have:=congrArg (·[0]?) v
    simpa [List.getElem?_take,List.getElem?_drop]using this
   have c:(xs.map (·.1))[i]?=hQ (DataW.lit (.string s.data.toList):jc H):=by simp[r]
   rw[f]at c;simp only[jM,jK,DataW.lit.injEq,Lit.string.injEq]at c;obtain⟨F,y,B⟩:=c;rw[x,jM,y,B];simp
  rw[jD Y,jD (by simp;omega)]
 cases h
theorem F7{P:Program}{W:ih}{a:String}{b:List (List UInt8)}{c:List (String×jc Unit)}{g:Nat}{t e:je}{n:Nat}
 (d:P.globalNamed a=hQ g) (f:(P.globals[g]?).map (·.type)=hQ t) (i:P.underlying t=hQ (.array n e)) (he:P.underlying e=hQ .string) (j:P.cellsOf e=1) (k:P.cellsOf t=n)
 (h:laidMet P ((a,sa b)::c) W):W.var? P a=hQ (b.map λz=>Value.string ⟨z.toArray⟩).toArray:=by
 obtain⟨s,⟨u,v,cs,fuel,p,q,l,m,o,r,_,_⟩,_⟩:=h;obtain rfl:=Option.some.inj (d.symm.trans l);obtain rfl:=Option.some.inj (f.symm.trans m);rw[o,<-Kt i he j k r]
def rS:List (String×jc Unit):=[("chartroom/digest.start",Rows.laid_chartroom_digest_start),("chartroom/digest.numbers",Rows.laid_chartroom_digest_numbers),("bytes.ErrTooLarge",Rows.laid_bytes_ErrTooLarge),("chartroom/cipher.constants",Rows.laid_chartroom_cipher_constants),("chartroom/schedule.labels",Rows.laid_chartroom_schedule_labels)]
theorem G4{W:ih}(h:laidMetH hK rS W):iB W/\fL W:=by
 have i:(Rows.laid_chartroom_digest_start:jc Unit)=Lib.tabData .u32 (eD.map λx=>(x.toNat:Int)):=by kernel_rfl
 have j:(Rows.laid_chartroom_digest_numbers:jc Unit)=Lib.tabData .u32 (iX.map λx=>(x.toNat:Int)):=by kernel_rfl
 have k:(Rows.laid_chartroom_cipher_constants:jc Unit)=Lib.tabData .u32 [0x61707865,0x3320646e,0x79622d32,0x6b206574]:=by kernel_rfl
 have l:(Rows.laid_chartroom_schedule_labels:jc Unit)=sa [[105,110,105,116],[99,111,109,109,105,116],[99,104,105,108,100]]:=by kernel_rfl
 unfold rS at h;rw[MakeChecks.laidMetH_plain _ _ _ ae,i,j,k,l]at h;have e:=h.tail;have f:=e.tail.tail;have m:=f.tail;have a:=Lib.tabIs_of_head (g:=3) ae ae underlying304 jI ae ae e;have b:=Lib.tabIs_of_head (g:=1) ae ae underlying273 jI ae ae h;have c:=Lib.tabIs_of_head (g:=6) ae ae underlying326 jI ae ae f;have d:=F7 (g:=0) ae ae underlying220 underlying9 ae ae m;exact⟨⟨a,b,c⟩,⟨a,b⟩,d⟩
theorem door_met(os:Os)(args:Array hU):laidMetH hK rS ((World.doorLaid hK 3000 os).forCall (λ_ _=>0) ⟨#[],args,[]⟩).memory:=
 laidMetH_of_parts3 (fuel:=8) (laidMet_of_run' 8 ae ae) ae ae
section
open Go.RowKit Go.ChangeShapes Go.WideShapes Go.Deep
theorem Nv(g o j:Nat):(⟨g,o,jf⟩:Addr).add j=⟨g,o+j,jf⟩:=by unfold Addr.add;split<;>simp_all
instance:Inhabited Chg:=⟨AP⟩
instance:Inhabited Mem:=⟨bR⟩
instance:Inhabited Bx:=⟨⟨0,0,0,[]⟩⟩
instance:Inhabited Wl:=⟨⟨0,0,[]⟩⟩
instance:Inhabited hU:=⟨.slice jf 0 0⟩
theorem BR{k:Int}(h:(Lit.int .u8 k).wf=true):jq .u8 k=v8 (jA 8 k.toNat):=by
 have a:=bounds_u8 h;show _ =jq .u8 ((jA 8 k.toNat).toNat:Int);rw[BitVec.toNat_ofNat]
 congr 1
 omega
theorem pB{H α:Type}[Inhabited α]{enc:je×hU->H}{W:ih}{k:Nat}(hk:0<k){t e:je}(R:hK.underlying t=hQ (.slice e))(S:hK.cellsOf e=k)(b:α->List hU)(q:∀x,(b x).length=k)(w:α->Prop)
 (he:∀(fuel:Nat) (cs:List hU) (x:jc H×List jg),DataW.trod enc hK W 0 (λ_=>true) true fuel e cs=hQ x->∃E,cs=b E/\w E)
 {fuel:Nat} {v:hU} {x:jc H×List jg} (h:DataW.trod enc hK W 0 (λ_=>true) true fuel t [v]=hQ x):
 ∃l:List α,ah (·<W.heap.size) W v k l.length (l.flatMap b)/\(∀E∈l,w E)/\l.length<=ji:=by
 rcases open_slice R h with⟨y,-⟩|⟨a,c,z,m,n,D,P0,y,-,U,hm,V,-,B⟩
 ·obtain rfl:v=.slice jf 0 0:=by simpa using y
  exact⟨[],⟨by simp,jf,0,rfl,Nat.le_refl _,λ_=>rfl,λh=>absurd h av⟩,λE h=>by simp at h,Nat.zero_le _⟩
 obtain rfl:v=.slice (hQ a) c z:=by simpa using y
 have P6:m=z:=by simpa using V
 have X:∀i,i<c->∃E:α,(∀j,j<k->W.cell? (a.add (i*k+j))=(b E)[j]?)/\w E:=λi d=>by
  obtain⟨p,f,r⟩:=B i Y;rw[S]at f;obtain⟨E,rfl,g⟩:=he _ _ _ r;obtain⟨-,-,o⟩:=World.cells?_some f;refine⟨E,λj s=>?_,g⟩;have:=o j s
  rwa [add_add]at this
 obtain⟨E,C⟩:=choose_lt X;have p:((jB c).map E).length=c:=by simp
 refine⟨(jB c).map E,⟨flat_length b k q _,hQ a,z,by rw[p],by rw[p];exact U,(λe=>by cases e),λF=>?_⟩,λx B=>?_,by rw[p];omega⟩
 ·rw[p]at F
  obtain⟨g,o,aa⟩:=a;have ad:∃K,(b (E 0))[0]?=hQ K:=⟨_,jE (by rw[q];exact hk)⟩;obtain⟨u0,al⟩:=ad;have u:=(C 0 F).1 0 hk;rw[al]at u;have au:aa=jf:=by
   simp[Addr.add]at u;exact World.cell?_spot u
  subst au;have hg:g<W.heap.size:=eN (by simpa [Addr.add]using u);refine⟨g,o,rfl,hg,λj K s=>?_⟩;have M:=(List.getElem?_eq_some_iff.1 s).1;rw[flat_length b k q,p]at M;have d:j/k<c:=Nat.div_lt_of_lt_mul (by rw[Nat.mul_comm];exact M);have P:j%k<k:=Nat.mod_lt _ hk;have f:=flat_get b k q ((jB c).map E) (j/k) (j%k) (E (j/k)) (by simp[d]) P;have Q:j/k*k+j%k=j:=by rw[Nat.mul_comm];exact Nat.div_add_mod j k
  rw[Q]at f;have r:=(C (j/k) d).1 (j%k) P;rw[Q,Nv]at r;rw[r,<-f];exact s
 obtain⟨i,d,rfl⟩:=jF.1 B;exact(C i (List.mem_range.1 d)).2
theorem Bo{H:Type}{enc:je×hU->H}{W:ih}{t:je}(f:hK.underlying t=hQ (.array 32 5))(g:hK.cellsOf t=32){fuel:Nat}{cs:List hU}{x:jc H×List jg}(h:DataW.trod enc hK W 0 (λ_=>true) true fuel t cs=hQ x):
 ∃kb:LBy,cs=kb.map v8/\kb.length=32:=by
 obtain⟨xs,m,-,-,j,p,k⟩:=DataW.trod_array f h;rw[g]at j;have l:hK.cellsOf 5=1:=by kernel_rfl
 have n:∀i,i<32->∃b:BitVec 8,cs[i]?=hQ (v8 b):=λi c=>by
  have d:=k i c;rw[l,Nat.mul_one,jr Y,jE Y]at d;simp only[List.take_succ_cons,List.take_zero]at d;obtain⟨a,e,-,o⟩:=DataW.trod_int underlying5 d;injection e with e _
  exact⟨jA 8 a.toNat,by rw[jE Y,e,BR o]⟩
 obtain⟨E,a⟩:=choose_lt n;refine⟨(jB 32).map E,?_,by simp⟩
 apply jL
 intro i
 by_cases c:i<32
 ·rw[a i c];simp[c]
 rw[jD Y];symm;simp;omega
theorem KO{H:Type}{enc:je×hU->H}{W:ih}{fuel:Nat}{cs:List hU}{x:jc H×List jg}(h:DataW.trod enc hK W 0 (λ_=>true) true fuel 59 cs=hQ x):
 ∃e:Chg,cs=e.cells/\(IR e.k/\IR e.d/\IR e.p/\IR e.v/\IR e.c):=by
 obtain⟨xs,n,-,-,o,p,a⟩:=DataW.trod_struct underlying59 h;have q:cs.length=5:=o.trans ae;have r:hK.cellsOf 3=1:=by kernel_rfl
 match cs,q,xs,p with
 |[v0,v1,v2,v3,v4],_,[y0,y1,y2,y3,y4],_=>
  have b:=a 0 _ rfl;have c:=a 1 _ rfl;have d:=a 2 _ rfl;have f:=a 3 _ rfl;have g:=a 4 _ rfl;simp only[js,jt,ju,r]at b c d f g;obtain⟨s,i,-,w0⟩:=DataW.trod_int jh b;obtain⟨t,j,-,u⟩:=DataW.trod_int jh c;obtain⟨v,k,-,w⟩:=DataW.trod_int jh d;obtain⟨y,l,-,z⟩:=DataW.trod_int jh f;obtain⟨B,m,-,C⟩:=DataW.trod_int jh g;simp at i j k l m;exact⟨⟨s,t,v,y,B⟩,by rw[i,j,k,l,m];rfl,IR.of w0,IR.of u,IR.of w,IR.of z,IR.of C⟩
theorem Jq{H:Type}{enc:je×hU->H}{W:ih}{fuel:Nat}{v:hU}{x:jc H×List jg}(h:DataW.trod enc hK W 0 (λ_=>true) true fuel 24 [v]=hQ x):
 ∃l:List Chg,ah (·<W.heap.size) W v 5 l.length (l.flatMap Chg.cells)/\(∀x∈l,IR x.k/\IR x.d/\IR x.p/\IR x.v/\IR x.c)/\l.length<=ji:=
 pB G underlying24 ae Chg.cells (λ_=>rfl) _ (λ_ _ _ h=>KO h) h
theorem yE{H:Type}{enc:je×hU->H}{W:ih}{fuel:Nat}{v:hU}{x:jc H×List jg}(h:DataW.trod enc hK W 0 (λ_=>true) true fuel 32 [v]=hQ x):
 ∃l:LBy,ah (·<W.heap.size) W v 1 l.length (l.map v8)/\l.length<=ji:=by
 obtain⟨l,c,-,d⟩:=pB (α:=BitVec 8) G underlying32 ae (λb=>[v8 b]) (λ_=>rfl) (λ_=>True) (λ_ _ _ h=>by
  obtain⟨a,rfl,-,e⟩:=DataW.trod_int underlying5 h;exact⟨jA 8 a.toNat,by rw[BR e],trivial⟩) h
 have e:∀l:LBy,(l.flatMap λb=>[v8 b])=l.map v8:=λl=>by
  induction l with
  |nil=>rfl
  |cons b l a=>rw[jG,a];rfl
 rw[e]at c;exact⟨l,c,d⟩
theorem Gr{H:Type}{enc:je×hU->H}{W:ih}{fuel:Nat}{v:hU}{x:jc H×List jg}(h:DataW.trod enc hK W 0 (λ_=>true) true fuel 25 [v]=hQ x):
 ∃l:List Int,ah (·<W.heap.size) W v 1 l.length (l.map (jq .i64))/\(∀x∈l,IR x)/\l.length<=ji:=by
 obtain⟨l,c,d,f⟩:=pB (α:=Int) G underlying25 ae (λb=>[jq .i64 b]) (λ_=>rfl) (λx=>IR x) (λ_ _ _ h=>by
  obtain⟨a,rfl,-,e⟩:=DataW.trod_int jh h;exact⟨a,rfl,IR.of e⟩) h
 have e:∀l:List Int,(l.flatMap λb=>[jq .i64 b])=l.map (jq .i64):=λl=>by
  induction l with
  |nil=>rfl
  |cons b l a=>rw[jG,a];rfl
 rw[e]at c;exact⟨l,c,d,f⟩
theorem EN{H:Type}{enc:je×hU->H}{W:ih}{fuel:Nat}{cs:List hU}{x:jc H×List jg}(h:DataW.trod enc hK W 0 (λ_=>true) true fuel 71 cs=hQ x):
 ∃(n:Int) (a:hU) (l:LBy),cs=[.int .i64 n,a]/\IR n/\ah (·<W.heap.size) W a 1 l.length (l.map v8):=by
 obtain⟨xs,n,-,-,f,g,b⟩:=DataW.trod_struct underlying71 h;have i:cs.length=2:=f.trans ae;have j:hK.cellsOf 3=1:=by kernel_rfl
 have k:hK.cellsOf 32=1:=by kernel_rfl
 match cs,i,xs,g with
 |[v0,v1],_,[y0,y1],_=>
  have c:=b 0 _ rfl;have d:=b 1 _ rfl;simp only[js,jt,ju,j,k]at c d;obtain⟨m,e,-,w0⟩:=DataW.trod_int jh c;obtain⟨l,o,-⟩:=yE (v:=v1) (by simpa using d);simp at e;exact⟨m,v1,l,by rw[e],IR.of w0,o⟩
theorem MM{H:Type}{enc:je×hU->H}{W:ih}{fuel:Nat}{cs:List hU}{x:jc H×List jg}(h:DataW.trod enc hK W 0 (λ_=>true) true fuel 73 cs=hQ x):
 ∃e:Bx×hU,cs=e.1.cells e.2/\(IR e.1.node/\IR e.1.lev/\IR e.1.u)/\ah (·<W.heap.size) W e.2 1 e.1.body.length (e.1.body.map v8):=by
 obtain⟨xs,n,-,-,j,k,a⟩:=DataW.trod_struct underlying73 h;have m:cs.length=4:=j.trans ae;have o:hK.cellsOf 3=1:=by kernel_rfl
 have p:hK.cellsOf 71=2:=by kernel_rfl
 match cs,m,xs,k with
 |[v0,v1,v2,v3],_,[y0,y1,y2],_=>
  have c:=a 0 _ rfl;have d:=a 1 _ rfl;have f:=a 2 _ rfl;simp only[js,jt,ju,o,p]at c d f;obtain⟨q,g,-,w0⟩:=DataW.trod_int jh c;obtain⟨r,i,-,s⟩:=DataW.trod_int jh d;obtain⟨t,u,l,b,v,w⟩:=EN f;simp at g i b;exact⟨(⟨q,r,t,l⟩,u),by rw[g,i,b.1,b.2];rfl,⟨IR.of w0,IR.of s,v⟩,w⟩
theorem Jb{H:Type}{enc:je×hU->H}{W:ih}{fuel:Nat}{cs:List hU}{x:jc H×List jg}(h:DataW.trod enc hK W 0 (λ_=>true) true fuel 75 cs=hQ x):
 ∃e:Wl×hU,cs=e.1.cells e.2/\(IR e.1.dev/\IR e.1.u)/\ah (·<W.heap.size) W e.2 1 e.1.body.length (e.1.body.map v8):=by
 obtain⟨xs,n,-,-,g,i,b⟩:=DataW.trod_struct underlying75 h;have j:cs.length=3:=g.trans ae;have k:hK.cellsOf 3=1:=by kernel_rfl
 have m:hK.cellsOf 71=2:=by kernel_rfl
 match cs,j,xs,i with
 |[v0,v2,v3],_,[y0,y2],_=>
  have c:=b 0 _ rfl;have d:=b 1 _ rfl;simp only[js,jt,ju,k,m]at c d;obtain⟨o,f,-,w0⟩:=DataW.trod_int jh c;obtain⟨p,q,l,a,r,s⟩:=EN d;simp at f a;exact⟨(⟨o,p,l⟩,q),by rw[f,a.1,a.2];rfl,⟨IR.of w0,r⟩,s⟩
theorem tQ{α:Type}(f:α->hU->List hU):∀(l:List (α×hU)),cB f (l.map (·.1)) (l.map (·.2))=l.flatMap λe=>f e.1 e.2
 |[]=>rfl
 |e::l=>by simp only[List.map_cons,cB,jG,tQ f l]
theorem yg{α:Type}{D:Nat->Prop}{w:ih}(f:α->LBy):∀(l:List (α×hU)),(∀e∈l,ah D w e.2 1 (f e.1).length ((f e.1).map v8))->bH D w ((l.map (·.1)).map f) (l.map (·.2))
 |[],_=>rfl
 |e::l,h=>⟨e.2,l.map (·.2),rfl,h e (List.mem_cons_self ..),yg f l λx a=>h x (List.mem_cons_of_mem _ a)⟩
theorem kJ{cl:List hU}{o n m:Nat}(h:o+n=m):cl.drop o=(cl.drop o).take n++cl.drop m:=by
 have:=(List.take_append_drop n (cl.drop o)).symm
 rwa [List.drop_drop,h]at this
theorem FZ{H:Type}{enc:je×hU->H}{W:ih}{fuel:Nat}{cl:List hU}{x:jc H×List jg}(aa:DataW.trod enc hK W 0 (λ_=>true) true fuel 31 cl=hQ x):
 ∃(c:Cmt) (q:CQ),cl=aj c q/\az (·<W.heap.size) W c q/\(IR c.folder/\IR c.epoch/\IR c.author/\IR c.r/\IR c.s)/\(c.chg.length<=ji/\∀x∈c.chg,IR x.k/\IR x.d/\IR x.p/\IR x.v/\IR x.c)/\
  (c.path.length<=ji/\∀x∈c.path,IR x)/\(c.box.length<=ji/\∀b∈c.box,IR b.node/\IR b.lev/\IR b.u)/\(c.wel.length<=ji/\∀b∈c.wel,IR b.dev/\IR b.u):=by
 obtain⟨xs,n,-,-,hl,ad,a⟩:=DataW.trod_struct jj aa;have bk:cl.length=73:=hl.trans ae;have u:hK.cellsOf 3=1:=by kernel_rfl
 have g:hK.cellsOf 23=32:=by kernel_rfl
 have i3:hK.cellsOf 24=1:=by kernel_rfl
 have i4:hK.cellsOf 25=1:=by kernel_rfl
 have i5:hK.cellsOf 26=1:=by kernel_rfl
 have i6:hK.cellsOf 27=1:=by kernel_rfl
 have i7:hK.cellsOf 29=2:=by kernel_rfl
 match xs,ad with
 |[y0,y1,y2,y3,y4,y5,y6,y7,y8,y9],_=>
  have v:=a 0 _ rfl;have w:=a 1 _ rfl;have z:=a 2 _ rfl;have B:=a 3 _ rfl;have i:=a 4 _ rfl;have j:=a 5 _ rfl;have l:=a 6 _ rfl;have p:=a 7 _ rfl;have C:=a 8 _ rfl;have D:=a 9 _ rfl;simp only[js,jt,ju,u,g,i3,i4,i5,i6,i7]at v w z B i j l p C D;obtain⟨a0,e0,-,w0⟩:=DataW.trod_int jh v;obtain⟨a1,e1,-,w1⟩:=DataW.trod_int jh w;obtain⟨kb,e2,al⟩:=Bo underlying23 g z;obtain⟨a3,e3,-,w3⟩:=DataW.trod_int jh B;have d:∀o (h:o<cl.length),(cl.drop o).take 1=[cl[o]]:=λo h=>by rw[jr h];rfl
  rw[d 35 Y]at i;rw[d 36 Y]at j;rw[d 37 Y]at l;rw[d 38 Y]at p;obtain⟨lc,Qr,au,Yk⟩:=Jq i;obtain⟨lp,a2,a4,Va⟩:=Gr j;obtain⟨lb,a5,E,PE⟩:=pB (α:=Bx×hU) (k:=4) G underlying26 ae (λe=>e.1.cells e.2) (λ_=>rfl) _ (λ_ _ _ h=>MM h) l;obtain⟨f,ba,F,bb⟩:=pB (α:=Wl×hU) (k:=3) G underlying27 ae (λe=>e.1.cells e.2) (λ_=>rfl) _ (λ_ _ _ h=>Jb h) p;obtain⟨kc,e8,bc⟩:=Bo underlying23 g C;obtain⟨zs,n9,-,-,bl,bd,r⟩:=DataW.trod_struct underlying29 D;have bf:(cl.drop 71).take 2=[cl[71],cl[72]]:=by rw[jr Y,jr Y];rfl
  rw[bf]at r
  match zs,bd with
  |[z0,z1],_=>
   have K:=r 0 _ rfl;have M:=r 1 _ rfl;simp only[js,jt,ju,u]at K M;obtain⟨P,er,-,wr⟩:=DataW.trod_int jh K;obtain⟨Q,es,-,ws⟩:=DataW.trod_int jh M;have bg:cl[71]=.int .i64 P:=by simpa using er
   have bh:cl[72]=.int .i64 Q:=by simpa using es
   have e:cl=aj ⟨a0,a1,kb,a3,lc,lp,lb.map (·.1),f.map (·.1),kc,P,Q⟩ ⟨cl[35],cl[36],cl[37],cl[38]⟩:=by
    have s:=kJ (cl:=cl) (o:=0) (n:=1) (m:=1) rfl;have t:=kJ (cl:=cl) (o:=1) (n:=1) (m:=2) rfl;have y:=kJ (cl:=cl) (o:=2) (n:=32) (m:=34) rfl;have R:=kJ (cl:=cl) (o:=34) (n:=1) (m:=35) rfl;have S:=kJ (cl:=cl) (o:=35) (n:=1) (m:=36) rfl;have U:=kJ (cl:=cl) (o:=36) (n:=1) (m:=37) rfl;have V:=kJ (cl:=cl) (o:=37) (n:=1) (m:=38) rfl;have X:=kJ (cl:=cl) (o:=38) (n:=1) (m:=39) rfl;have b8:=kJ (cl:=cl) (o:=39) (n:=32) (m:=71) rfl;have b9:cl.drop 71=[cl[71],cl[72]]:=by
     rw[jr Y,jr Y,List.drop_eq_nil_of_le Y]
    rw[e0]at s;rw[e1]at t;rw[e2]at y;rw[e3]at R;rw[d 35 Y]at S;rw[d 36 Y]at U;rw[d 37 Y]at V;rw[d 38 Y]at X;rw[e8,b9,bg,bh]at b8;rw[List.drop_zero]at s;refine s.trans ?_;rw[t,y,R,S,U,V,X,b8]
    rfl
   refine⟨_,_,e,⟨Qr,a2,⟨lb.map (·.2),?_,?_⟩,⟨f.map (·.2),?_,?_⟩,al,bc⟩,⟨IR.of w0,IR.of w1,IR.of w3,IR.of wr,IR.of ws⟩,⟨Yk,au⟩,⟨Va,a4⟩,⟨?_,?_⟩,⟨?_,?_⟩⟩
   ·show ah _ _ _ 4 (lb.map (·.1)).length (cB Bx.cells (lb.map (·.1)) _)
    rw[tQ,jC];exact a5
   ·exact yg Bx.body lb λx s=>(E x s).2
   ·show ah _ _ _ 3 (f.map (·.1)).length (cB Wl.cells (f.map (·.1)) _)
    rw[tQ,jC];exact ba
   ·exact yg Wl.body f λx s=>(F x s).2
   ·show(lb.map (·.1)).length<=_
    rw[jC];exact PE
   ·intro b s
    obtain⟨y,t,rfl⟩:=jF.1 s;exact(E y t).1
   ·show(f.map (·.1)).length<=_
    rw[jC];exact bb
   intro b s;obtain⟨y,t,rfl⟩:=jF.1 s;exact(F y t).1
end
section
open Go.RowKit Go.ChangeShapes Go.WideShapes Go.Deep
theorem Ht{H:Type}{enc:je×hU->H}{W:ih}{base:Nat}{v:hU}{d:jc H}{p:List jg}(h:DataW.Trod enc hK W 0 (λ_=>true) true 31 v d p)(g:jH hK W .any base 31 v):
 ∃(c:Cmt) (q:CQ),v=.agg (aj c q).toArray/\az (·<W.heap.size) W c q/\rk c/\c.box.length<=ji/\c.wel.length<=ji:=by
 obtain⟨cs,rfl,n⟩:=okWide_struct jj g;obtain⟨cl⟩:=cs;obtain⟨fuel,a⟩:=h;have i:(Value.agg ⟨cl⟩).cells.toList=cl:=rfl;rw[i]at a;obtain⟨c,q,e,j,k,l,m,b,f⟩:=FZ a;exact⟨c,q,by rw[e],j,⟨k,l.2,m.2,b.2,f.2⟩,b.1,f.1⟩
theorem commitsBack_w{H:Type}{enc:je×hU->H}{W:ih}{base:Nat}(a:hU)(k:jc H)(l:List jg)(m:DataW.Trod enc hK W 0 (λ_=>true) true 31 a k l)(n:jH hK W .any base 31 a)
 (b:hU) (o:jc H) (r:List jg) (u:DataW.Trod enc hK W 0 (λ_=>true) true 32 b o r) (w:jH hK W .any base 32 b) (x:laidMetH hK rS W):
 jm hK 3 #[a,b] W λe y=>e=.returned (.bool true)/\jo W W y:=by
 obtain⟨c,q,rfl,z,B,C,D⟩:=Ht m n;obtain⟨h,d,i,rfl⟩:=okWide_slice underlying32 w;obtain⟨fuel,E⟩:=u;obtain⟨j,f,F⟩:=yE (v:=.slice h d i) (by simpa [Value.cells]using E);obtain⟨t,s⟩:=G4 x;have g:d=j.length:=by
  obtain⟨p,K,e⟩:=f.form;injection e
 exact Hm c q j h d i W z B C D g (by rw[g]at f⊢;exact f) (by rw[g];exact F) ⟨t,s⟩
end

end Go.Proofs.YtpfafeammikibaaGreatDoor
