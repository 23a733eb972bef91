/- Contracts of functions that the law reaches, part 7 of 10; no condition. -/
import Derived.Test.YtjbiancnijgmgaaGreatDoorZJ6
namespace Go.Proofs.YtjbiancnijgmgaaGreatDoor
set_option maxHeartbeats 64000000
set_option maxRecDepth 100000
set_option linter.unusedVariables false
set_option linter.unusedSimpArgs false
set_option linter.unusedSectionVars false
open Go.RowKit
open Go.Proofs.Tryz
open _root_ renaming Nat->ja,Int->jb
section
set_option maxRecDepth 1000000
def bzn(k n:ja):LBy:=(List.range k).map λi=>BitVec.ofNat 8 (n/256^(k-1-i))
def bz(n:ja):LBy:=bzn 32 n
theorem vv{g:Grp}{a:jb}{x:ja}{b:List ap}{f init:LBy}{c:List Bx}{d:List Wl}{e:List jb}{i body h msg:LBy}{r s:ja}
 (k:mh f=e) (l:dK g f init=i) (j:cZ kO ((aR ⟨g.folder,g.epoch+1,g.last,a,b,e,c,d,cH,0,0⟩).take 8)=body) (m:iZ i body=h)
 (n:dp ⟨g.folder,g.epoch+1,g.last,a,b,e,c,d,h,0,0⟩=msg) (o:pw 4 (iS x msg)=r) (p:nB x msg=s):
 mkF g a x b f init c d=⟨g.folder,g.epoch+1,g.last,a,b,e,c,d,h,(r:ja),(s:ja)⟩:=by
 have q:nH g a b f init c d=⟨g.folder,g.epoch+1,g.last,a,b,e,c,d,cH,0,0⟩:=by unfold nH;rw[k]
 have t:lI g a b f init c d=⟨g.folder,g.epoch+1,g.last,a,b,e,c,d,h,0,0⟩:=by
  unfold lI;rw[q,l];dsimp only at j⊢;rw[j,m]
 unfold mkF;rw[t,n,o,p]
theorem GI:aw (kz 1) 1=bz 92947053214586472348261825333834548428676820749397000367760927962054231880206:=by rw[aw,aw];decide+kernel
theorem EQ:aw (kz 1) 2=bz 110269909067070830460258195486788993570795853927037390172319513479910842111086:=by rw[aw,GI];decide+kernel
theorem Cq:aw (kz 1) 3=bz 25892258339256454676443945956354232645023697359747327914787591083075305642554:=by rw[aw,EQ];decide+kernel
theorem BR:aw (kz 1) 4=bz 38690980210331588110400036669245523398886357721832508197118173294600712690993:=by rw[aw,Cq];decide+kernel
theorem Ew:aw (kz 1) 5=bz 44385089301805622807802772369333755547620878409928888610337709062735322103782:=by rw[aw,BR];decide+kernel
theorem Ik:aw (kz 1) 6=bz 89203680705282144270341728638031108040740304520070780012083671599142392496052:=by rw[aw,Ew];decide+kernel
theorem DN:aw (kz 1) 7=bz 100551540601728949310560055356990068823531297451471705944642868317943424802089:=by rw[aw,Ik];decide+kernel
theorem F3:aw (kz 1) 8=bz 80773885239101932582560612707767667507454745959666497068145301597327502169229:=by rw[aw,DN];decide+kernel
theorem CX:aw (kz 1) 9=bz 32932589713238151175116942116042105857792114562720779989060310603950895136414:=by rw[aw,F3];decide+kernel
theorem Ue:pw 4 (aT (aw (kz 1) 0))=3982525525669097395:=by rw[aw];decide+kernel
theorem Mj:pw 4 (aT (aw (kz 1) 1))=3368371570921412518:=by rw[GI];decide+kernel
theorem Tz:pw 4 (aT (aw (kz 1) 2))=2420363809147598689:=by rw[EQ];decide+kernel
theorem MY:pw 4 (aT (aw (kz 1) 3))=53518799388614053:=by rw[Cq];decide+kernel
theorem Qt:pw 4 (aT (aw (kz 1) 4))=2894597427308308891:=by rw[BR];decide+kernel
theorem PE:pw 4 (aT (aw (kz 1) 5))=2396399926350998175:=by rw[Ew];decide+kernel
theorem Rf:pw 4 (aT (aw (kz 1) 6))=3259069423189128266:=by rw[Ik];decide+kernel
theorem Qj:pw 4 (aT (aw (kz 1) 7))=1205985981775409817:=by rw[DN];decide+kernel
theorem LA:pw 4 (aT (aw (kz 1) 8))=2101393345108455879:=by rw[F3];decide+kernel
theorem Lb:pw 4 (aT (aw (kz 1) 9))=2875087179471260367:=by rw[CX];decide+kernel
def pl1:List jb:=[3982525525669097395,3368371570921412518,2420363809147598689,53518799388614053,2894597427308308891,2396399926350998175,3259069423189128266,1205985981775409817,2101393345108455879,2875087179471260367]
theorem pa1:mh (kz 1)=pl1:=by
 show [((pw 4 (aT (aw (kz 1) 0)):ja):jb),((pw 4 (aT (aw (kz 1) 1)):ja):jb),((pw 4 (aT (aw (kz 1) 2)):ja):jb),((pw 4 (aT (aw (kz 1) 3)):ja):jb),((pw 4 (aT (aw (kz 1) 4)):ja):jb),((pw 4 (aT (aw (kz 1) 5)):ja):jb),((pw 4 (aT (aw (kz 1) 6)):ja):jb),((pw 4 (aT (aw (kz 1) 7)):ja):jb),((pw 4 (aT (aw (kz 1) 8)):ja):jb),((pw 4 (aT (aw (kz 1) 9)):ja):jb)]=_;rw[Ue,Mj,Tz,MY,Qt,PE,Rf,Qj,LA,Lb];rfl
theorem zH:aw (kz 2) 1=bz 7795026126522001566530479997073560168090451678956069711981303104202711385306:=by rw[aw,aw];decide+kernel
theorem Ij:aw (kz 2) 2=bz 78643572629378111538628181399693355582309667718313446362834464818673189624336:=by rw[aw,zH];decide+kernel
theorem H3:aw (kz 2) 3=bz 114108813753808823508573204213242017525290924912032827683083883622471437070517:=by rw[aw,Ij];decide+kernel
theorem GE:aw (kz 2) 4=bz 113855224720463661563885976400783124269809154446430648728169800553026566981714:=by rw[aw,H3];decide+kernel
theorem Gh:aw (kz 2) 5=bz 32524229718462889697687133027243686621107296854090295308046354960141566043497:=by rw[aw,GE];decide+kernel
theorem CV:aw (kz 2) 6=bz 56788005722780344953335773866346267966372028095981818404508348894266993562800:=by rw[aw,Gh];decide+kernel
theorem H7:aw (kz 2) 7=bz 2014910312052460976280735825190903697928716350251033593519941492829749524222:=by rw[aw,CV];decide+kernel
theorem Gx:aw (kz 2) 8=bz 76869863361308483062111728667213287504179821872492424401802065332902998049894:=by rw[aw,H7];decide+kernel
theorem BK:aw (kz 2) 9=bz 72678393599735024128468285507161992898562739420159586140064223818366269839631:=by rw[aw,Gx];decide+kernel
theorem Qm:pw 4 (aT (aw (kz 2) 0))=4572362397544290297:=by rw[aw];decide+kernel
theorem Ll:pw 4 (aT (aw (kz 2) 1))=83602551327005630:=by rw[zH];decide+kernel
theorem LJ:pw 4 (aT (aw (kz 2) 2))=3980522495517885342:=by rw[Ij];decide+kernel
theorem Q9:pw 4 (aT (aw (kz 2) 3))=861726599088549604:=by rw[H3];decide+kernel
theorem P8:pw 4 (aT (aw (kz 2) 4))=382661267723870360:=by rw[GE];decide+kernel
theorem Lm:pw 4 (aT (aw (kz 2) 5))=4361949050238618437:=by rw[Gh];decide+kernel
theorem OK:pw 4 (aT (aw (kz 2) 6))=2067886714649420014:=by rw[CV];decide+kernel
theorem T3:pw 4 (aT (aw (kz 2) 7))=2197768742755191226:=by rw[H7];decide+kernel
theorem Rx:pw 4 (aT (aw (kz 2) 8))=545361312990491382:=by rw[Gx];decide+kernel
theorem Pd:pw 4 (aT (aw (kz 2) 9))=3014658826702240148:=by rw[BK];decide+kernel
def pl2:List jb:=[4572362397544290297,83602551327005630,3980522495517885342,861726599088549604,382661267723870360,4361949050238618437,2067886714649420014,2197768742755191226,545361312990491382,3014658826702240148]
theorem pa2:mh (kz 2)=pl2:=by
 show [((pw 4 (aT (aw (kz 2) 0)):ja):jb),((pw 4 (aT (aw (kz 2) 1)):ja):jb),((pw 4 (aT (aw (kz 2) 2)):ja):jb),((pw 4 (aT (aw (kz 2) 3)):ja):jb),((pw 4 (aT (aw (kz 2) 4)):ja):jb),((pw 4 (aT (aw (kz 2) 5)):ja):jb),((pw 4 (aT (aw (kz 2) 6)):ja):jb),((pw 4 (aT (aw (kz 2) 7)):ja):jb),((pw 4 (aT (aw (kz 2) 8)):ja):jb),((pw 4 (aT (aw (kz 2) 9)):ja):jb)]=_;rw[Qm,Ll,LJ,Q9,P8,Lm,OK,T3,Rx,Pd];rfl
theorem D5:aw (kz 3) 1=bz 46904460737930777852346229449928834429062247665295844018793763330700240469376:=by rw[aw,aw];decide+kernel
theorem Iy:aw (kz 3) 2=bz 101730935365692994563964248270881352789641712153222409846868437557839033110599:=by rw[aw,D5];decide+kernel
theorem Hj:aw (kz 3) 3=bz 40728488087116557286746955838157925602660613431526327412489450425897523334074:=by rw[aw,Iy];decide+kernel
theorem Gk:aw (kz 3) 4=bz 99179449191126613624578143328970327338626792620640268053248606503718128807850:=by rw[aw,Hj];decide+kernel
theorem Ih:aw (kz 3) 5=bz 56032842510510386555462372023201643267544770558763912154503970267867634372657:=by rw[aw,Gk];decide+kernel
theorem DK:aw (kz 3) 6=bz 53095064823814443809285330713787463797115131544970777857145070560007978820967:=by rw[aw,Ih];decide+kernel
theorem FV:aw (kz 3) 7=bz 43507548118366430520583849677623852436014510882370163507572407360615036361017:=by rw[aw,DK];decide+kernel
theorem G2:aw (kz 3) 8=bz 93436734642940098613090714888553887485458246808041010523669472885772065099764:=by rw[aw,FV];decide+kernel
theorem Io:aw (kz 3) 9=bz 33975105336812410515559925757825706852335543773340134127742992176516891445595:=by rw[aw,G2];decide+kernel
theorem Ts:pw 4 (aT (aw (kz 3) 0))=4471659185962668909:=by rw[aw];decide+kernel
theorem M0:pw 4 (aT (aw (kz 3) 1))=3617808682835033999:=by rw[D5];decide+kernel
theorem J7:pw 4 (aT (aw (kz 3) 2))=3001429045986596234:=by rw[Iy];decide+kernel
theorem P6:pw 4 (aT (aw (kz 3) 3))=2225913278891432786:=by rw[Hj];decide+kernel
theorem LO:pw 4 (aT (aw (kz 3) 4))=974775673560239181:=by rw[Gk];decide+kernel
theorem Qu:pw 4 (aT (aw (kz 3) 5))=2657093889804896221:=by rw[Ih];decide+kernel
theorem NP:pw 4 (aT (aw (kz 3) 6))=3803846485021874901:=by rw[DK];decide+kernel
theorem Ui:pw 4 (aT (aw (kz 3) 7))=4258262581727677338:=by rw[FV];decide+kernel
theorem JW:pw 4 (aT (aw (kz 3) 8))=204465990907776052:=by rw[G2];decide+kernel
theorem Mg:pw 4 (aT (aw (kz 3) 9))=166027103051556743:=by rw[Io];decide+kernel
def pl3:List jb:=[4471659185962668909,3617808682835033999,3001429045986596234,2225913278891432786,974775673560239181,2657093889804896221,3803846485021874901,4258262581727677338,204465990907776052,166027103051556743]
theorem pa3:mh (kz 3)=pl3:=by
 show [((pw 4 (aT (aw (kz 3) 0)):ja):jb),((pw 4 (aT (aw (kz 3) 1)):ja):jb),((pw 4 (aT (aw (kz 3) 2)):ja):jb),((pw 4 (aT (aw (kz 3) 3)):ja):jb),((pw 4 (aT (aw (kz 3) 4)):ja):jb),((pw 4 (aT (aw (kz 3) 5)):ja):jb),((pw 4 (aT (aw (kz 3) 6)):ja):jb),((pw 4 (aT (aw (kz 3) 7)):ja):jb),((pw 4 (aT (aw (kz 3) 8)):ja):jb),((pw 4 (aT (aw (kz 3) 9)):ja):jb)]=_;rw[Ts,M0,J7,P6,LO,Qu,NP,Ui,JW,Mg];rfl
theorem Cn:aw (kz 4) 1=bz 50722205186391903595132185935550243514785757736150323968424273179957915260378:=by rw[aw,aw];decide+kernel
theorem Iq:aw (kz 4) 2=bz 101310645668282014026348788696419716451190150362053753708536171234038456856707:=by rw[aw,Cn];decide+kernel
theorem Hm:aw (kz 4) 3=bz 42376911518104537199852456965600289776964293368915876846180987369823919944846:=by rw[aw,Iq];decide+kernel
theorem Cz:aw (kz 4) 4=bz 92777326006413517535642294566398491312292136436067891343560110706895332312186:=by rw[aw,Hm];decide+kernel
theorem CO:aw (kz 4) 5=bz 13532582193433087599370014281589388409497560774222296801713207669392413658087:=by rw[aw,Cz];decide+kernel
theorem BP:aw (kz 4) 6=bz 95055745239012566121540913178029454666690195084440460800017035152292777760850:=by rw[aw,CO];decide+kernel
theorem GD:aw (kz 4) 7=bz 15529787399067858416926276930027456261191774492478224736741866638593695587050:=by rw[aw,BP];decide+kernel
theorem FT:aw (kz 4) 8=bz 22492036315392790401503571428077834369844364048405240334831675570703168145467:=by rw[aw,GD];decide+kernel
theorem BQ:aw (kz 4) 9=bz 50776473759655940268073372889152495648905650426791004802066150283028038399796:=by rw[aw,FT];decide+kernel
theorem Rk:pw 4 (aT (aw (kz 4) 0))=387509236366328249:=by rw[aw];decide+kernel
theorem Nq:pw 4 (aT (aw (kz 4) 1))=3509365028658716024:=by rw[Cn];decide+kernel
theorem Lx:pw 4 (aT (aw (kz 4) 2))=2098131147301025627:=by rw[Iq];decide+kernel
theorem Qi:pw 4 (aT (aw (kz 4) 3))=3393190081034882839:=by rw[Hm];decide+kernel
theorem LN:pw 4 (aT (aw (kz 4) 4))=2977238981076608589:=by rw[Cz];decide+kernel
theorem TW:pw 4 (aT (aw (kz 4) 5))=3900264601396445229:=by rw[CO];decide+kernel
theorem Qg:pw 4 (aT (aw (kz 4) 6))=1096630281638188484:=by rw[BP];decide+kernel
theorem OS:pw 4 (aT (aw (kz 4) 7))=1923971880346926212:=by rw[GD];decide+kernel
theorem Nj:pw 4 (aT (aw (kz 4) 8))=3249172878372356751:=by rw[FT];decide+kernel
theorem Mw:pw 4 (aT (aw (kz 4) 9))=4368071318166190663:=by rw[BQ];decide+kernel
def pl4:List jb:=[387509236366328249,3509365028658716024,2098131147301025627,3393190081034882839,2977238981076608589,3900264601396445229,1096630281638188484,1923971880346926212,3249172878372356751,4368071318166190663]
theorem pa4:mh (kz 4)=pl4:=by
 show [((pw 4 (aT (aw (kz 4) 0)):ja):jb),((pw 4 (aT (aw (kz 4) 1)):ja):jb),((pw 4 (aT (aw (kz 4) 2)):ja):jb),((pw 4 (aT (aw (kz 4) 3)):ja):jb),((pw 4 (aT (aw (kz 4) 4)):ja):jb),((pw 4 (aT (aw (kz 4) 5)):ja):jb),((pw 4 (aT (aw (kz 4) 6)):ja):jb),((pw 4 (aT (aw (kz 4) 7)):ja):jb),((pw 4 (aT (aw (kz 4) 8)):ja):jb),((pw 4 (aT (aw (kz 4) 9)):ja):jb)]=_;rw[Rk,Nq,Lx,Qi,LN,TW,Qg,OS,Nj,Mw];rfl
def gq1:Grp:=⟨3,0,cH,[],[]⟩
theorem se1:dK gq1 (kz 1) (kz 1)=bz 11587432877149456826038772010012695763244694783340461140323635969870305861011:=by unfold dK;rw[CX];decide+kernel
theorem bo1:cZ kO ((aR ⟨3,1,cH,1,[⟨1,1,64,64,0⟩],pl1,[],[],cH,0,0⟩).take 8)=bz 59178843141278552747077220196396757512064675479112619899357449785079483226147:=by decide+kernel
theorem co1:iZ (bz 11587432877149456826038772010012695763244694783340461140323635969870305861011) (bz 59178843141278552747077220196396757512064675479112619899357449785079483226147)=bz 103875796824923414196824021614561014878573348506570782549374484912780481974313:=by decide+kernel
theorem ms1:dp ⟨3,1,cH,1,[⟨1,1,64,64,0⟩],pl1,[],[],bz 103875796824923414196824021614561014878573348506570782549374484912780481974313,0,0⟩=bz 98181464338107786806568372226347940484695391662024152663985610118788978991738:=by decide+kernel
theorem sr1:pw 4 (iS 3 (bz 98181464338107786806568372226347940484695391662024152663985610118788978991738))=3775612072464831930:=by decide+kernel
theorem ss1:nB 3 (bz 98181464338107786806568372226347940484695391662024152663985610118788978991738)=830699883390057841:=by decide+kernel
def cq1:Cmt:=⟨3,1,cH,1,[⟨1,1,64,64,0⟩],pl1,[],[],bz 103875796824923414196824021614561014878573348506570782549374484912780481974313,3775612072464831930,830699883390057841⟩
theorem cm1:mkF gq1 1 3 [⟨1,1,64,64,0⟩] (kz 1) (kz 1) [] []=cq1:=vv pa1 se1 bo1 co1 ms1 sr1 ss1
theorem id1:aG cq1=bz 60992011752960795406008006297352343504793997280000501183144456388909801558589:=by decide+kernel
end
end Go.Proofs.YtjbiancnijgmgaaGreatDoor
