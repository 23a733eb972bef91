/- Contracts of functions that the law reaches, part 7 of 10; no condition. -/
import Derived.Test.YthonckffmkefdaaGreatDoorZJ6
namespace Go.Proofs.YthonckffmkefdaaGreatDoor
set_option maxHeartbeats 64000000
set_option maxRecDepth 100000
set_option linter.unusedVariables false
set_option linter.unusedSimpArgs false
set_option linter.unusedSectionVars false
open Go.RowKit
open Go.Proofs.Tryz
open _root_ renaming Nat->ja,Int->jb
section
set_option maxRecDepth 1000000
def bzn(k n:ja):LBy:=(List.range k).map λi=>BitVec.ofNat 8 (n/256^(k-1-i))
def bz(n:ja):LBy:=bzn 32 n
theorem uZ{g:Grp}{a:jb}{x:ja}{b:List ap}{f init:LBy}{c:List Bx}{d:List Wl}{e:List jb}{i body h msg:LBy}{r s:ja}
 (k:lZ f=e) (l:dM g f init=i) (j:cW kL ((aR ⟨g.folder,g.epoch+1,g.last,a,b,e,c,d,cG,0,0⟩).take 8)=body) (m:iY i body=h)
 (n:dp ⟨g.folder,g.epoch+1,g.last,a,b,e,c,d,h,0,0⟩=msg) (o:pw 4 (iS x msg)=r) (p:m7 x msg=s):
 mkF g a x b f init c d=⟨g.folder,g.epoch+1,g.last,a,b,e,c,d,h,(r:ja),(s:ja)⟩:=by
 have q:nh g a b f init c d=⟨g.folder,g.epoch+1,g.last,a,b,e,c,d,cG,0,0⟩:=by unfold nh;rw[k]
 have t:lE g a b f init c d=⟨g.folder,g.epoch+1,g.last,a,b,e,c,d,h,0,0⟩:=by
  unfold lE;rw[q,l];dsimp only at j⊢;rw[j,m]
 unfold mkF;rw[t,n,o,p]
theorem Gt:aA (kz 1) 1=bz 92947053214586472348261825333834548428676820749397000367760927962054231880206:=by rw[aA,aA];decide+kernel
theorem EB:aA (kz 1) 2=bz 110269909067070830460258195486788993570795853927037390172319513479910842111086:=by rw[aA,Gt];decide+kernel
theorem Cj:aA (kz 1) 3=bz 25892258339256454676443945956354232645023697359747327914787591083075305642554:=by rw[aA,EB];decide+kernel
theorem BI:aA (kz 1) 4=bz 38690980210331588110400036669245523398886357721832508197118173294600712690993:=by rw[aA,Cj];decide+kernel
theorem El:aA (kz 1) 5=bz 44385089301805622807802772369333755547620878409928888610337709062735322103782:=by rw[aA,BI];decide+kernel
theorem Hw:aA (kz 1) 6=bz 89203680705282144270341728638031108040740304520070780012083671599142392496052:=by rw[aA,El];decide+kernel
theorem DC:aA (kz 1) 7=bz 100551540601728949310560055356990068823531297451471705944642868317943424802089:=by rw[aA,Hw];decide+kernel
theorem FP:aA (kz 1) 8=bz 80773885239101932582560612707767667507454745959666497068145301597327502169229:=by rw[aA,DC];decide+kernel
theorem CI:aA (kz 1) 9=bz 32932589713238151175116942116042105857792114562720779989060310603950895136414:=by rw[aA,FP];decide+kernel
theorem TG:pw 4 (aS (aA (kz 1) 0))=3982525525669097395:=by rw[aA];decide+kernel
theorem LW:pw 4 (aS (aA (kz 1) 1))=3368371570921412518:=by rw[Gt];decide+kernel
theorem S8:pw 4 (aS (aA (kz 1) 2))=2420363809147598689:=by rw[EB];decide+kernel
theorem MA:pw 4 (aS (aA (kz 1) 3))=53518799388614053:=by rw[Cj];decide+kernel
theorem P5:pw 4 (aS (aA (kz 1) 4))=2894597427308308891:=by rw[BI];decide+kernel
theorem Pd:pw 4 (aS (aA (kz 1) 5))=2396399926350998175:=by rw[El];decide+kernel
theorem QR:pw 4 (aS (aA (kz 1) 6))=3259069423189128266:=by rw[Hw];decide+kernel
theorem PT:pw 4 (aS (aA (kz 1) 7))=1205985981775409817:=by rw[DC];decide+kernel
theorem Lb:pw 4 (aS (aA (kz 1) 8))=2101393345108455879:=by rw[FP];decide+kernel
theorem KJ:pw 4 (aS (aA (kz 1) 9))=2875087179471260367:=by rw[CI];decide+kernel
def pl1:List jb:=[3982525525669097395,3368371570921412518,2420363809147598689,53518799388614053,2894597427308308891,2396399926350998175,3259069423189128266,1205985981775409817,2101393345108455879,2875087179471260367]
theorem pa1:lZ (kz 1)=pl1:=by
 show [((pw 4 (aS (aA (kz 1) 0)):ja):jb),((pw 4 (aS (aA (kz 1) 1)):ja):jb),((pw 4 (aS (aA (kz 1) 2)):ja):jb),((pw 4 (aS (aA (kz 1) 3)):ja):jb),((pw 4 (aS (aA (kz 1) 4)):ja):jb),((pw 4 (aS (aA (kz 1) 5)):ja):jb),((pw 4 (aS (aA (kz 1) 6)):ja):jb),((pw 4 (aS (aA (kz 1) 7)):ja):jb),((pw 4 (aS (aA (kz 1) 8)):ja):jb),((pw 4 (aS (aA (kz 1) 9)):ja):jb)]=_;rw[TG,LW,S8,MA,P5,Pd,QR,PT,Lb,KJ];rfl
theorem zz:aA (kz 2) 1=bz 7795026126522001566530479997073560168090451678956069711981303104202711385306:=by rw[aA,aA];decide+kernel
theorem Hv:aA (kz 2) 2=bz 78643572629378111538628181399693355582309667718313446362834464818673189624336:=by rw[aA,zz];decide+kernel
theorem Hi:aA (kz 2) 3=bz 114108813753808823508573204213242017525290924912032827683083883622471437070517:=by rw[aA,Hv];decide+kernel
theorem Gp:aA (kz 2) 4=bz 113855224720463661563885976400783124269809154446430648728169800553026566981714:=by rw[aA,Hi];decide+kernel
theorem F4:aA (kz 2) 5=bz 32524229718462889697687133027243686621107296854090295308046354960141566043497:=by rw[aA,Gp];decide+kernel
theorem CH:aA (kz 2) 6=bz 56788005722780344953335773866346267966372028095981818404508348894266993562800:=by rw[aA,F4];decide+kernel
theorem Hl:aA (kz 2) 7=bz 2014910312052460976280735825190903697928716350251033593519941492829749524222:=by rw[aA,CH];decide+kernel
theorem Gi:aA (kz 2) 8=bz 76869863361308483062111728667213287504179821872492424401802065332902998049894:=by rw[aA,Hl];decide+kernel
theorem BB:aA (kz 2) 9=bz 72678393599735024128468285507161992898562739420159586140064223818366269839631:=by rw[aA,Gi];decide+kernel
theorem PW:pw 4 (aS (aA (kz 2) 0))=4572362397544290297:=by rw[aA];decide+kernel
theorem KT:pw 4 (aS (aA (kz 2) 1))=83602551327005630:=by rw[zz];decide+kernel
theorem Lj:pw 4 (aS (aA (kz 2) 2))=3980522495517885342:=by rw[Hv];decide+kernel
theorem QL:pw 4 (aS (aA (kz 2) 3))=861726599088549604:=by rw[Hi];decide+kernel
theorem PF:pw 4 (aS (aA (kz 2) 4))=382661267723870360:=by rw[Gp];decide+kernel
theorem KU:pw 4 (aS (aA (kz 2) 5))=4361949050238618437:=by rw[F4];decide+kernel
theorem Of:pw 4 (aS (aA (kz 2) 6))=2067886714649420014:=by rw[CH];decide+kernel
theorem Ty:pw 4 (aS (aA (kz 2) 7))=2197768742755191226:=by rw[Hl];decide+kernel
theorem Q9:pw 4 (aS (aA (kz 2) 8))=545361312990491382:=by rw[Gi];decide+kernel
theorem ON:pw 4 (aS (aA (kz 2) 9))=3014658826702240148:=by rw[BB];decide+kernel
def pl2:List jb:=[4572362397544290297,83602551327005630,3980522495517885342,861726599088549604,382661267723870360,4361949050238618437,2067886714649420014,2197768742755191226,545361312990491382,3014658826702240148]
theorem pa2:lZ (kz 2)=pl2:=by
 show [((pw 4 (aS (aA (kz 2) 0)):ja):jb),((pw 4 (aS (aA (kz 2) 1)):ja):jb),((pw 4 (aS (aA (kz 2) 2)):ja):jb),((pw 4 (aS (aA (kz 2) 3)):ja):jb),((pw 4 (aS (aA (kz 2) 4)):ja):jb),((pw 4 (aS (aA (kz 2) 5)):ja):jb),((pw 4 (aS (aA (kz 2) 6)):ja):jb),((pw 4 (aS (aA (kz 2) 7)):ja):jb),((pw 4 (aS (aA (kz 2) 8)):ja):jb),((pw 4 (aS (aA (kz 2) 9)):ja):jb)]=_;rw[PW,KT,Lj,QL,PF,KU,Of,Ty,Q9,ON];rfl
theorem DV:aA (kz 3) 1=bz 46904460737930777852346229449928834429062247665295844018793763330700240469376:=by rw[aA,aA];decide+kernel
theorem Ie:aA (kz 3) 2=bz 101730935365692994563964248270881352789641712153222409846868437557839033110599:=by rw[aA,DV];decide+kernel
theorem G3:aA (kz 3) 3=bz 40728488087116557286746955838157925602660613431526327412489450425897523334074:=by rw[aA,Ie];decide+kernel
theorem F7:aA (kz 3) 4=bz 99179449191126613624578143328970327338626792620640268053248606503718128807850:=by rw[aA,G3];decide+kernel
theorem Ht:aA (kz 3) 5=bz 56032842510510386555462372023201643267544770558763912154503970267867634372657:=by rw[aA,F7];decide+kernel
theorem Dz:aA (kz 3) 6=bz 53095064823814443809285330713787463797115131544970777857145070560007978820967:=by rw[aA,Ht];decide+kernel
theorem FJ:aA (kz 3) 7=bz 43507548118366430520583849677623852436014510882370163507572407360615036361017:=by rw[aA,Dz];decide+kernel
theorem GG:aA (kz 3) 8=bz 93436734642940098613090714888553887485458246808041010523669472885772065099764:=by rw[aA,FJ];decide+kernel
theorem H3:aA (kz 3) 9=bz 33975105336812410515559925757825706852335543773340134127742992176516891445595:=by rw[aA,GG];decide+kernel
theorem S0:pw 4 (aS (aA (kz 3) 0))=4471659185962668909:=by rw[aA];decide+kernel
theorem MB:pw 4 (aS (aA (kz 3) 1))=3617808682835033999:=by rw[DV];decide+kernel
theorem JL:pw 4 (aS (aA (kz 3) 2))=3001429045986596234:=by rw[Ie];decide+kernel
theorem PD:pw 4 (aS (aA (kz 3) 3))=2225913278891432786:=by rw[G3];decide+kernel
theorem Lo:pw 4 (aS (aA (kz 3) 4))=974775673560239181:=by rw[F7];decide+kernel
theorem P6:pw 4 (aS (aA (kz 3) 5))=2657093889804896221:=by rw[Ht];decide+kernel
theorem Nm:pw 4 (aS (aA (kz 3) 6))=3803846485021874901:=by rw[Dz];decide+kernel
theorem TM:pw 4 (aS (aA (kz 3) 7))=4258262581727677338:=by rw[FJ];decide+kernel
theorem JA:pw 4 (aS (aA (kz 3) 8))=204465990907776052:=by rw[GG];decide+kernel
theorem LR:pw 4 (aS (aA (kz 3) 9))=166027103051556743:=by rw[H3];decide+kernel
def pl3:List jb:=[4471659185962668909,3617808682835033999,3001429045986596234,2225913278891432786,974775673560239181,2657093889804896221,3803846485021874901,4258262581727677338,204465990907776052,166027103051556743]
theorem pa3:lZ (kz 3)=pl3:=by
 show [((pw 4 (aS (aA (kz 3) 0)):ja):jb),((pw 4 (aS (aA (kz 3) 1)):ja):jb),((pw 4 (aS (aA (kz 3) 2)):ja):jb),((pw 4 (aS (aA (kz 3) 3)):ja):jb),((pw 4 (aS (aA (kz 3) 4)):ja):jb),((pw 4 (aS (aA (kz 3) 5)):ja):jb),((pw 4 (aS (aA (kz 3) 6)):ja):jb),((pw 4 (aS (aA (kz 3) 7)):ja):jb),((pw 4 (aS (aA (kz 3) 8)):ja):jb),((pw 4 (aS (aA (kz 3) 9)):ja):jb)]=_;rw[S0,MB,JL,PD,Lo,P6,Nm,TM,JA,LR];rfl
theorem Cg:aA (kz 4) 1=bz 50722205186391903595132185935550243514785757736150323968424273179957915260378:=by rw[aA,aA];decide+kernel
theorem H6:aA (kz 4) 2=bz 101310645668282014026348788696419716451190150362053753708536171234038456856707:=by rw[aA,Cg];decide+kernel
theorem G6:aA (kz 4) 3=bz 42376911518104537199852456965600289776964293368915876846180987369823919944846:=by rw[aA,H6];decide+kernel
theorem Cr:aA (kz 4) 4=bz 92777326006413517535642294566398491312292136436067891343560110706895332312186:=by rw[aA,G6];decide+kernel
theorem Cz:aA (kz 4) 5=bz 13532582193433087599370014281589388409497560774222296801713207669392413658087:=by rw[aA,Cr];decide+kernel
theorem BG:aA (kz 4) 6=bz 95055745239012566121540913178029454666690195084440460800017035152292777760850:=by rw[aA,Cz];decide+kernel
theorem Gn:aA (kz 4) 7=bz 15529787399067858416926276930027456261191774492478224736741866638593695587050:=by rw[aA,BG];decide+kernel
theorem FH:aA (kz 4) 8=bz 22492036315392790401503571428077834369844364048405240334831675570703168145467:=by rw[aA,Gn];decide+kernel
theorem BH:aA (kz 4) 9=bz 50776473759655940268073372889152495648905650426791004802066150283028038399796:=by rw[aA,FH];decide+kernel
theorem QW:pw 4 (aS (aA (kz 4) 0))=387509236366328249:=by rw[aA];decide+kernel
theorem MX:pw 4 (aS (aA (kz 4) 1))=3509365028658716024:=by rw[Cg];decide+kernel
theorem K8:pw 4 (aS (aA (kz 4) 2))=2098131147301025627:=by rw[H6];decide+kernel
theorem PS:pw 4 (aS (aA (kz 4) 3))=3393190081034882839:=by rw[G6];decide+kernel
theorem Ln:pw 4 (aS (aA (kz 4) 4))=2977238981076608589:=by rw[Cr];decide+kernel
theorem Tu:pw 4 (aS (aA (kz 4) 5))=3900264601396445229:=by rw[Cz];decide+kernel
theorem PQ:pw 4 (aS (aA (kz 4) 6))=1096630281638188484:=by rw[BG];decide+kernel
theorem Oq:pw 4 (aS (aA (kz 4) 7))=1923971880346926212:=by rw[Gn];decide+kernel
theorem MP:pw 4 (aS (aA (kz 4) 8))=3249172878372356751:=by rw[FH];decide+kernel
theorem Ma:pw 4 (aS (aA (kz 4) 9))=4368071318166190663:=by rw[BH];decide+kernel
def pl4:List jb:=[387509236366328249,3509365028658716024,2098131147301025627,3393190081034882839,2977238981076608589,3900264601396445229,1096630281638188484,1923971880346926212,3249172878372356751,4368071318166190663]
theorem pa4:lZ (kz 4)=pl4:=by
 show [((pw 4 (aS (aA (kz 4) 0)):ja):jb),((pw 4 (aS (aA (kz 4) 1)):ja):jb),((pw 4 (aS (aA (kz 4) 2)):ja):jb),((pw 4 (aS (aA (kz 4) 3)):ja):jb),((pw 4 (aS (aA (kz 4) 4)):ja):jb),((pw 4 (aS (aA (kz 4) 5)):ja):jb),((pw 4 (aS (aA (kz 4) 6)):ja):jb),((pw 4 (aS (aA (kz 4) 7)):ja):jb),((pw 4 (aS (aA (kz 4) 8)):ja):jb),((pw 4 (aS (aA (kz 4) 9)):ja):jb)]=_;rw[QW,MX,K8,PS,Ln,Tu,PQ,Oq,MP,Ma];rfl
def gq1:Grp:=⟨3,0,cG,[],[]⟩
theorem se1:dM gq1 (kz 1) (kz 1)=bz 11587432877149456826038772010012695763244694783340461140323635969870305861011:=by unfold dM;rw[CI];decide+kernel
theorem bo1:cW kL ((aR ⟨3,1,cG,1,[⟨1,1,64,64,0⟩],pl1,[],[],cG,0,0⟩).take 8)=bz 59178843141278552747077220196396757512064675479112619899357449785079483226147:=by decide+kernel
theorem co1:iY (bz 11587432877149456826038772010012695763244694783340461140323635969870305861011) (bz 59178843141278552747077220196396757512064675479112619899357449785079483226147)=bz 103875796824923414196824021614561014878573348506570782549374484912780481974313:=by decide+kernel
theorem ms1:dp ⟨3,1,cG,1,[⟨1,1,64,64,0⟩],pl1,[],[],bz 103875796824923414196824021614561014878573348506570782549374484912780481974313,0,0⟩=bz 98181464338107786806568372226347940484695391662024152663985610118788978991738:=by decide+kernel
theorem sr1:pw 4 (iS 3 (bz 98181464338107786806568372226347940484695391662024152663985610118788978991738))=3775612072464831930:=by decide+kernel
theorem ss1:m7 3 (bz 98181464338107786806568372226347940484695391662024152663985610118788978991738)=830699883390057841:=by decide+kernel
def cq1:Cmt:=⟨3,1,cG,1,[⟨1,1,64,64,0⟩],pl1,[],[],bz 103875796824923414196824021614561014878573348506570782549374484912780481974313,3775612072464831930,830699883390057841⟩
theorem cm1:mkF gq1 1 3 [⟨1,1,64,64,0⟩] (kz 1) (kz 1) [] []=cq1:=uZ pa1 se1 bo1 co1 ms1 sr1 ss1
theorem id1:aG cq1=bz 60992011752960795406008006297352343504793997280000501183144456388909801558589:=by decide+kernel
end
end Go.Proofs.YthonckffmkefdaaGreatDoor
