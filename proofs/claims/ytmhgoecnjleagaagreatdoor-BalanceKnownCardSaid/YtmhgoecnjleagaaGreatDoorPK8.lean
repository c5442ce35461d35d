/- Functions of the program, and what they give: part 8. -/
import Derived.Test.YtmhgoecnjleagaaGreatDoorPK7
namespace Go.Proofs.YtmhgoecnjleagaaGreatDoor
open Go Go.RowKit

def tb6_9 : List (Nat × Nat × Nat) := [(0, 2251799813685248, 0), (1, 4503599627370496, 2251799813685248), (0, 9007199254740992, 4), (0, 18014398509481984, 0), (14, 36028797018963968, 27021597764222976), (16, 72057594037927936, 36028797018963968), (16, 144115188075855872, 36028797018963968), (114, 288230376151711744, 220676381741154304), (128, 576460752303423488, 288230376151711744), (256, 1152921504606846976, 576460752303423492), (256, 2305843009213693952, 576460752303423488), (1792, 4611686018427387904, 4035225266123964416), (2304, 9223372036854775808, 5188146770730811392), (4352, 18446744073709551616, 9799832789158199296), (10240, 36893488147419103232, 18446744073709551616), (16384, 73786976294838206464, 36893488147419103234), (16384, 147573952589676412928, 36893488147419103232), (114688, 295147905179352825856, 258254417031933722624), (147456, 590295810358705651712, 332041393326771929088), (278528, 1180591620717411303424, 627189298506124754944), (655360, 2361183241434822606848, 1180591620717411303424), (1048576, 4722366482869645213696, 2361183241434822606850), (3145728, 9444732965739290427392, 7083549724304467820544), (5242880, 18889465931478580854784, 11805916207174113034240), (9437184, 37778931862957161709568, 21250649172913403461632), (20971520, 75557863725914323419136, 37778931862957161709568), (33554432, 151115727451828646838272, 75557863725914323419138), (100663296, 302231454903657293676544, 226673591177742970257408), (167772160, 604462909807314587353088, 377789318629571617095680), (301989888, 1208925819614629174706176, 680020773533228910772224), (671088640, 2417851639229258349412352, 1208925819614629174706176), (1073741824, 4835703278458516698824704, 2417851639229258349412354), (3221225472, 9671406556917033397649408, 7253554917687775048237056), (5368709120, 19342813113834066795298816, 12089258196146291747061760), (9663676416, 38685626227668133590597632, 21760664753063325144711168), (21474836480, 77371252455336267181195264, 38685626227668133590597632), (34359738368, 154742504910672534362390528, 77371252455336267181195266), (34359738368, 309485009821345068724781056, 77371252455336267181195264), (240518168576, 618970019642690137449562112, 541598767187353870268366848), (309237645312, 1237940039285380274899124224, 696341272098026404630757376), (584115552256, 2475880078570760549798248448, 1315311291740716542080319488), (1374389534720, 4951760157141521099596496896, 2475880078570760549798248448), (2199023255552, 9903520314283042199192993792, 4951760157141521099596496898), (2199023255552, 19807040628566084398385987584, 4951760157141521099596496896), (15393162788864, 39614081257132168796771975168, 34662321099990647697175478272), (19791209299968, 79228162514264337593543950336, 44565841414273689896368472064), (37383395344384, 158456325028528675187087900672, 84179922671405858693140447232), (140737488355327, 32, 158456325028528675187087900672)]
def tb6_16 : List (Nat × Nat × Nat) := [(0, 43556142965880123323311949751266331066368, 2), (0, 87112285931760246646623899502532662132736, 0), (3, 174224571863520493293247799005065324265472, 130668428897640369969935849253798993199104), (4, 21778071482940061661655974875633165533184, 174224571863520493293247799005065324265472), (8, 348449143727040986586495598010130648530944, 21778071482940061661655974875633165533184), (8, 696898287454081973172991196020261297061888, 21778071482940061661655974875633165533184), (8, 1393796574908163946345982392040522594123776, 21778071482940061661655974875633165533184), (31, 1048576, 348449143727040986586495598010130648530944), (191, 2097152, 696898287454081973172991196020261297061888), (511, 4194304, 1393796574908163946345982392040522594123776)]
def tb6_17 : List (Nat × Nat × Nat) := [(0, 5575186299632655785383929568162090376495104, 2), (0, 11150372599265311570767859136324180752990208, 0), (3, 22300745198530623141535718272648361505980416, 16725558898897967356151788704486271129485312), (4, 2787593149816327892691964784081045188247552, 22300745198530623141535718272648361505980416), (8, 44601490397061246283071436545296723011960832, 2787593149816327892691964784081045188247552), (8, 89202980794122492566142873090593446023921664, 2787593149816327892691964784081045188247552), (8, 178405961588244985132285746181186892047843328, 2787593149816327892691964784081045188247552), (31, 8388608, 44601490397061246283071436545296723011960832), (191, 16777216, 89202980794122492566142873090593446023921664), (511, 33554432, 178405961588244985132285746181186892047843328)]
def tb6_22 : List (Nat × Nat × Nat) := [(0, 431359146674410236714672241392314090778194310760649159697657763987456, 0), (1, 862718293348820473429344482784628181556388621521298319395315527974912, 431359146674410236714672241392314090778194310760649159697657763987488), (3, 1725436586697640946858688965569256363112777243042596638790631055949824, 1294077440023230710144016724176942272334582932281947479092973291962368), (5, 3450873173395281893717377931138512726225554486085193277581262111899648, 1725436586697640946858688965569256363112777243042596638790631055949824), (8, 6901746346790563787434755862277025452451108972170386555162524223799296, 3450873173395281893717377931138512726225554486085193277581262111899648), (8, 13803492693581127574869511724554050904902217944340773110325048447598592, 3450873173395281893717377931138512726225554486085193277581262111899664), (56, 27606985387162255149739023449108101809804435888681546220650096895197184, 17254365866976409468586889655692563631127772430425966387906310559498240), (72, 55213970774324510299478046898216203619608871777363092441300193790394368, 31057858560557537043456401380246614536029990374766739498231359007096832), (72, 110427941548649020598956093796432407239217743554726184882600387580788736, 31057858560557537043456401380246614536029990374766739498231359007096832), (472, 220855883097298041197912187592864814478435487109452369765200775161577472, 175994531843159376579586274488064149037503278790344857156644367706882048), (520, 441711766194596082395824375185729628956870974218904739530401550323154944, 224306756270693323091629565524003327204661041595537563042782037273477120), (1536, 883423532389192164791648750371459257913741948437809479060803100646309888, 441711766194596082395824375185729628956870974218904739530401550323154944), (2048, 1766847064778384329583297500742918515827483896875618958121606201292619776, 883423532389192164791648750371459257913741948437809479060803100646309888), (2048, 3533694129556768659166595001485837031654967793751237916243212402585239552, 883423532389192164791648750371459257913741948437809479060803100646309904), (2048, 7067388259113537318333190002971674063309935587502475832486424805170479104, 883423532389192164791648750371459257913741948437809479060803100646309888), (6144, 14134776518227074636666380005943348126619871175004951664972849610340958208, 883423532389192164791648750371459257913741948437809479060803100646309888), (59392, 28269553036454149273332760011886696253239742350009903329945699220681916416, 25619282439286572778957813760772318479498516504696474892763289918742986752), (67584, 56539106072908298546665520023773392506479484700019806659891398441363832832, 29152976568843341438124408762258155511153484298447712809006502321328226304), (67584, 113078212145816597093331040047546785012958969400039613319782796882727665664, 29152976568843341438124408762258155511153484298447712809006502321328226304), (464896, 226156424291633194186662080095093570025917938800079226639565593765455331328, 172267588815892472134371506322434555293179679945372848416856604626030428160), (526336, 452312848583266388373324160190187140051835877600158453279131187530910662656, 227039847824022386351453728845465029283831680748517036118626396866101641216), (1572864, 904625697166532776746648320380374280103671755200316906558262375061821325312, 452312848583266388373324160190187140051835877600158453279131187530910662656), (2097152, 1809251394333065553493296640760748560207343510400633813116524750123642650624, 904625697166532776746648320380374280103671755200316906558262375061821325312), (2097152, 3618502788666131106986593281521497120414687020801267626233049500247285301248, 904625697166532776746648320380374280103671755200316906558262375061821325314), (2097152, 7237005577332262213973186563042994240829374041602535252466099000494570602496, 904625697166532776746648320380374280103671755200316906558262375061821325312), (31457280, 14474011154664524427946373126085988481658748083205070504932198000989141204992, 11760134063164926097706428164944865641347732817604119785257410875803677229056), (35651584, 28948022309329048855892746252171976963317496166410141009864396001978282409984, 15378636851831057204693021446466362761762419838405387411490460376050962530304), (35651584, 57896044618658097711785492504343953926634992332820282019728792003956564819968, 15378636851831057204693021446466362761762419838405387411490460376050962530304), (241172480, 115792089237316195423570985008687907853269984665640564039457584007913129639936, 89557944019486744897918183717657053730263503764831373749267975131120311205888), (270532608, 231584178474632390847141970017375815706539969331281128078915168015826259279872, 116696714934482728200317633329068282133373656420840880946015846382974950965248), (805306368, 463168356949264781694283940034751631413079938662562256157830336031652518559744, 231584178474632390847141970017375815706539969331281128078915168015826259279872), (1073741824, 926336713898529563388567880069503262826159877325124512315660672063305037119488, 463168356949264781694283940034751631413079938662562256157830336031652518559744), (1073741824, 1852673427797059126777135760139006525652319754650249024631321344126610074238976, 463168356949264781694283940034751631413079938662562256157830336031652518559746), (7516192768, 3705346855594118253554271520278013051304639509300498049262642688253220148477952, 2315841784746323908471419700173758157065399693312811280789151680158262592798720), (9663676416, 7410693711188236507108543040556026102609279018600996098525285376506440296955904, 4168515212543383035248555460312764682717719447963060305420473024284872667037696), (9663676416, 14821387422376473014217086081112052205218558037201992197050570753012880593911808, 4168515212543383035248555460312764682717719447963060305420473024284872667037696), (63350767616, 29642774844752946028434172162224104410437116074403984394101141506025761187823616, 23621586204412503866408480941772333202067076871790675064049347137614278446546944), (69793218560, 59285549689505892056868344324448208820874232148807968788202283012051522375647232, 30105943201702210810128456102258856041850196013066546650258971842057413706383360), (274877906943, 1, 59285549689505892056868344324448208820874232148807968788202283012051522375647232)]
theorem body9 : bodyB Tryz.prog 9 = true := by kernel_rfl
theorem body29 : bodyB Tryz.prog 29 = true := by kernel_rfl
def wardmotelaw22_BalanceKnown_p (n : Nat) : Option Bool :=
  (wardmotelaw22_works_p n).bind fun y1 => (if y1 = true then (wardmotelaw22_four_p n).bind fun y3 => (wardmotelaw22_four_p n).bind fun y24 => (app y24.fUnits ([(⟨⟨#[115, 101, 97]⟩, (0 : Int), ([] : List Int), ([] : List Int), ([] : List Int), true⟩ : TUnit)] : List TUnit)).bind fun xs66 => (wardmotelaw22_four_p n).bind fun y78 => (y78.fUnits[2]?).bind fun x99 => (put y78.fUnits ((2 : Nat) : Int) (⟨x99.fName, (-1 : Int), x99.fGroups, x99.fVotes, x99.fParents, x99.fWater⟩ : TUnit)).bind fun xs130 => jn (fun q1792 => (balance_Ideal_p n (⟨y78.fGroups, y78.fParties, y78.fLevels, xs130⟩ : TRoll) (0 : Int)).bind fun y1798 => (balance_Ideal_p n y3 (0 : Int)).bind fun y1808 => (balance_Off_p n (⟨(0 : Int), (0 : Int), (0 : Int), ([(⟨⟨#[120]⟩, (0 : Int), ([] : List Int), ([] : List Int), ([] : List Int), false⟩ : TUnit), (⟨⟨#[121]⟩, (0 : Int), ([] : List Int), ([] : List Int), ([] : List Int), false⟩ : TUnit)] : List TUnit)⟩ : TRoll) ([(0 : Int), (1 : Int)] : List Int) (2 : Int)).bind fun y1824 => (balance_Spread_p n (⟨(0 : Int), (0 : Int), (0 : Int), ([(⟨⟨#[120]⟩, (0 : Int), ([] : List Int), ([] : List Int), ([] : List Int), false⟩ : TUnit), (⟨⟨#[121]⟩, (0 : Int), ([] : List Int), ([] : List Int), ([] : List Int), false⟩ : TUnit)] : List TUnit)⟩ : TRoll) ([(0 : Int), (0 : Int)] : List Int) (2 : Int)).bind fun y1849 => (balance_Bounds_p n y3 (0 : Int) (⟨((0 : UInt64), (0 : UInt64), (0 : UInt64), (0 : UInt64), (0 : UInt64), (0 : UInt64), (0 : UInt64), (0 : UInt64)), ((0 : UInt64), (0 : UInt64), (0 : UInt64), (0 : UInt64), (0 : UInt64), (0 : UInt64), (0 : UInt64), (0 : UInt64))⟩ : TShare)).bind fun y1859 => (balance_Bounds_p n y3 (2 : Int) (⟨((0 : UInt64), (0 : UInt64), (0 : UInt64), (0 : UInt64), (0 : UInt64), (0 : UInt64), (0 : UInt64), (0 : UInt64)), ((0 : UInt64), (0 : UInt64), (0 : UInt64), (0 : UInt64), (0 : UInt64), (0 : UInt64), (0 : UInt64), (0 : UInt64))⟩ : TShare)).bind fun y1861 => (wardmotelaw22_of_p n (-1 : Int) (9 : Int)).bind fun y1864 => (balance_Bounds_p n y3 (2 : Int) y1864).bind fun y1865 => (wardmotelaw22_of_p n (2 : Int) (1 : Int)).bind fun y1868 => (balance_Bounds_p n y3 (3 : Int) y1868).bind fun y1869 => (balance_Within_p n y3 ([(0 : Int), (0 : Int), (0 : Int), (0 : Int)] : List Int) (2 : Int) (⟨((0 : UInt64), (0 : UInt64), (0 : UInt64), (0 : UInt64), (0 : UInt64), (0 : UInt64), (0 : UInt64), (0 : UInt64)), ((0 : UInt64), (0 : UInt64), (0 : UInt64), (0 : UInt64), (0 : UInt64), (0 : UInt64), (0 : UInt64), (0 : UInt64))⟩ : TShare)).bind fun y1876 => (balance_Bounds_p n y3 (2 : Int) (⟨((0 : UInt64), (1 : UInt64), (0 : UInt64), (0 : UInt64), (0 : UInt64), (0 : UInt64), (0 : UInt64), (0 : UInt64)), ((1 : UInt64), (0 : UInt64), (0 : UInt64), (0 : UInt64), (0 : UInt64), (0 : UInt64), (0 : UInt64), (0 : UInt64))⟩ : TShare)).bind fun y1886 => jn (fun q1905 => (if q1905 = true then (balance_Ideal_p n (⟨(0 : Int), (0 : Int), (0 : Int), ([(⟨⟨#[120]⟩, (0 : Int), ([] : List Int), ([] : List Int), ([] : List Int), false⟩ : TUnit), (⟨⟨#[121]⟩, (0 : Int), ([] : List Int), ([] : List Int), ([] : List Int), false⟩ : TUnit)] : List TUnit)⟩ : TRoll) (2 : Int)).bind fun y1925 => (wardmotelaw22_part_1_p n y1925.1 y1925.2 (0 : Int) (1 : Int)).bind fun y1927 => (if y1927 = true then (wardmotelaw22_of_p n (0 : Int) (1 : Int)).bind fun y2538 => (balance_Within_p n (⟨(0 : Int), (0 : Int), (0 : Int), ([(⟨⟨#[120]⟩, (0 : Int), ([] : List Int), ([] : List Int), ([] : List Int), false⟩ : TUnit), (⟨⟨#[121]⟩, (0 : Int), ([] : List Int), ([] : List Int), ([] : List Int), false⟩ : TUnit)] : List TUnit)⟩ : TRoll) ([(0 : Int), (1 : Int)] : List Int) (2 : Int) y2538).bind fun y3452 => (wardmotelaw22_truth_1_p n y3452.1 y3452.2 true).bind fun y3454 => (if y3454 = true then (balance_Spread_p n y3 ([(0 : Int), (0 : Int), (0 : Int), (0 : Int)] : List Int) (1 : Int)).bind fun y4681 => (wardmotelaw22_part_1_p n y4681.1 y4681.2 (0 : Int) (1 : Int)).bind fun y4683 => (if y4683 = true then (balance_Ideal_p n y3 (7 : Int)).bind fun y4696 => (wardmotelaw22_part_1_p n y4696.1 y4696.2 (100 : Int) (7 : Int)).bind fun y4698 => some y4698 else some false) else some false) else some false) else some false)) (fun J1909 => (if q1792 = true then (if y1798.2 = 0 then J1909 false else (if y1798.2 = 2 then J1909 false else (balance_Check_p n (⟨y78.fGroups, y78.fParties, y78.fLevels, xs130⟩ : TRoll) ([] : List Int) (0 : Int)).bind fun y4720 => (if y4720 = y1798.2 then (if y1808.2 = 2 then (if y1824.2 = 7 then (if y1849.2 = 220 then (if y1859.2.2 = 2 then (if y1861.2.2 = 0 then J1909 false else (if y1861.2.2 = 2 then J1909 false else (if y1865.2.2 = 2 then (if y1869.1 = (-33) then (if y1869.2.1 = 100 then (if y1869.2.2 = 0 then (if y1876.2 = 220 then J1909 (decide (y1886.2.2 = 6)) else J1909 false) else J1909 false) else J1909 false) else J1909 false) else J1909 false))) else J1909 false) else J1909 false) else J1909 false) else J1909 false) else J1909 false))) else J1909 false))) (fun J1796 => (balance_Totals_p n (⟨y24.fGroups, y24.fParties, y24.fLevels, xs66⟩ : TRoll) ([(0 : Int), (0 : Int), (0 : Int), (1 : Int)] : List Int) (2 : Int)).bind fun y6298 => (wardmotelaw22_is_1_p n y6298.1 y6298.2 ([(60 : Int), (40 : Int)] : List Int)).bind fun y6317 => (if y6317 = true then (balance_Check_p n (⟨y24.fGroups, y24.fParties, y24.fLevels, xs66⟩ : TRoll) ([(0 : Int), (0 : Int), (0 : Int), (1 : Int), (1 : Int)] : List Int) (2 : Int)).bind fun y6326 => (if y6326 = 220 then (balance_Check_p n y3 ([(0 : Int), (1 : Int), (2 : Int), (3 : Int)] : List Int) (4 : Int)).bind fun y6335 => (if y6335 = 0 then (balance_Check_p n y3 ([] : List Int) (0 : Int)).bind fun y6338 => (if y6338 = 2 then (balance_Check_p n y3 ([] : List Int) (9 : Int)).bind fun y6340 => (if y6340 = 2 then (balance_Check_p n y3 ([] : List Int) (1 : Int)).bind fun y6342 => (if y6342 = 220 then (balance_Check_p n y3 ([(0 : Int), (0 : Int), (0 : Int), (-1 : Int)] : List Int) (1 : Int)).bind fun y6350 => (if y6350 = 220 then (balance_Check_p n y3 ([(0 : Int), (0 : Int), (0 : Int), (2 : Int)] : List Int) (2 : Int)).bind fun y6359 => J1796 (decide (y6359 = 220)) else J1796 false) else J1796 false) else J1796 false) else J1796 false) else J1796 false) else J1796 false) else J1796 false)) else some false)
set_option maxRecDepth 4000 in
set_option maxHeartbeats 4000000 in
theorem wardmotelaw22_BalanceKnown_c (n : Nat) (L : List Nat) (w : World) (hL : ∀ b ∈ L, b < w.heap.size)  {r : Bool} (h : wardmotelaw22_BalanceKnown_p n = some r) :
    Calls Tryz.prog 6 #[] w (Gives w fun _ u => u = .bool r) := by
  unfold wardmotelaw22_BalanceKnown_p at h
  have hS0 := St.start w
  refine MX.start Tryz.func6 rfl rfl rfl (fun _ cs0 hb0 => ?_)
  refine MX.sr ?_
  refine RG.sg rfl rfl ?_
  refine RG.nil ?_
  refine MX.seq ?_
  refine MX.sr ?_
  obtain ⟨y1, hy1, h⟩ := bind_in h
  refine RG.cq (.bool y1) body9 rfl evs_nil (fun w9 hw9 => wardmotelaw22_works_c n _ w9 (hS0.hL0 hL hw9)  hy1) rfl ?_
  refine RG.vv (FV.not rfl) rfl ?_
  refine RG.nil ?_
  refine MX.ifnb rfl h (fun c2 h => ?_) (fun c2 h => ?_)
  ·skip
   refine MX.skip ?_
   refine MX.sr ?_
   obtain ⟨y3, hy3, h⟩ := bind_in h
   refine RG.call' (fst := []) (cap := []) .plain body36 rfl evs_nil (fun w9 hw9 => own_gives (b0 := w.heap.size) (wardmotelaw22_four_c n _ w9 (hS0.hL hL hw9)  hy3) hw9 (Nat.le_trans hS0.ag.size hw9.size)) rfl (fun w4 vu5 hag6 ⟨v11, cs12, hu8, s7, hc13⟩ => ?_)
   subst hu8
   have hS9 := own_push hS0 s7
   have hT10 := own_tr hS0 s7
   have hc15 := Cells.at_ (cs := cs12) (xs := (y3.fUnits : List TUnit)) hS9 L (own_cells hc13)
   refine RG.new .plain rfl (Does.alloc (zs := [.int .i64 0, .int .i64 0, .int .i64 0, .slice none 0 0]) hS9 (zB (by kernel_rfl))) (fun w17 b20 hS18 hT19 => ?_)
   refine RG.now .plain (Acts.storeAll (news := [.int .i64 y3.fGroups, .int .i64 y3.fParties, .int .i64 y3.fLevels, v11]) hS18 .hd rfl rfl rfl rfl rfl rfl (ones_cons rfl (ones_cons rfl (ones_cons rfl (ones_cons (St.o1 (α := TUnit) hS18 (.tl .hd)) ones_nil))))) (fun w21 hS22 hT23 => ?_)
   refine RG.nil ?_
   refine MX.sr ?_
   obtain ⟨y24, hy24, h⟩ := bind_in h
   refine RG.call' (fst := []) (cap := []) .plain body36 rfl evs_nil (fun w9 hw9 => own_gives (b0 := w.heap.size) (wardmotelaw22_four_c n _ w9 (hS22.hL hL hw9)  hy24) hw9 (Nat.le_trans hS22.ag.size hw9.size)) rfl (fun w25 vu26 hag27 ⟨v32, cs33, hu29, s28, hc34⟩ => ?_)
   subst hu29
   have hS30 := own_push hS22 s28
   have hT31 := own_tr hS22 s28
   have hc36 := Cells.at_ (cs := cs33) (xs := (y24.fUnits : List TUnit)) hS30 L (own_cells hc34)
   refine RG.new .plain rfl (Does.alloc (zs := [.int .i64 0, .int .i64 0, .int .i64 0, .slice none 0 0]) hS30 (zB (by kernel_rfl))) (fun w38 b41 hS39 hT40 => ?_)
   refine RG.now .plain (Acts.storeAll (news := [.int .i64 y24.fGroups, .int .i64 y24.fParties, .int .i64 y24.fLevels, v32]) hS39 .hd rfl rfl rfl rfl rfl rfl (ones_cons rfl (ones_cons rfl (ones_cons rfl (ones_cons (St.o1 (α := TUnit) hS39 (.tl .hd)) ones_nil))))) (fun w42 hS43 hT44 => ?_)
   refine RG.nil ?_
   refine MX.sr ?_
   refine RG.vv (FV.fieldAddr (off := 3) (by kernel_rfl) rfl) rfl ?_
   refine RG.vv (FV.load1 (by kernel_rfl) rfl ((hS43.memA .hd) 3 _ rfl)) rfl ?_
   refine RG.vv (FV.buildV (vs := [.string ⟨#[115, 101, 97]⟩, .bool true]) (u := .agg #[.string ⟨#[115, 101, 97]⟩, .int .i64 0, .slice none 0 0, .slice none 0 0, .slice none 0 0, .bool true]) (evs_cons rfl (evs_cons rfl evs_nil)) (fun w9 => by kernel_rfl)) rfl ?_
   have hr46 := Rep.nilAt (α := Int) hS43 L
   have hr47 := Rep.nilAt (α := Int) hS43 L
   have hr48 := Rep.nilAt (α := Int) hS43 L
   have hr49 := Rep.nilAt (α := Int) hS43 L
   have hr50 := Rep.nilAt (α := Int) hS43 L
   have hr51 := Rep.nilAt (α := Int) hS43 L
   have hr52 := Rep.nilAt (α := Int) hS43 L
   have hr53 := Rep.nilAt (α := Int) hS43 L
   have hr54 := Rep.nilAt (α := Int) hS43 L
   refine RG.new .plain rfl (Does.build (α := TUnit) (xs := ([(⟨⟨#[115, 101, 97]⟩, (0 : Int), ([] : List Int), ([] : List Int), ([] : List Int), true⟩ : TUnit)] : List TUnit)) (vs := [.agg #[.string ⟨#[115, 101, 97]⟩, .int .i64 0, .slice none 0 0, .slice none 0 0, .slice none 0 0, .bool true]]) (ds' := [.string ⟨#[115, 101, 97]⟩, .int .i64 0, .slice none 0 0, .slice none 0 0, .slice none 0 0, .bool true]) rfl hS43 el42 rfl (evs_cons rfl evs_nil) (by kernel_rfl) rfl) (fun w55 b58 hS56 hT57 => ?_)
   have hr60 := Rep.nilAt (α := Int) hS56 L
   have hr61 := Rep.nilAt (α := Int) hS56 L
   have hr62 := Rep.nilAt (α := Int) hS56 L
   have hr63 := Rep.nilAt (α := Int) hS56 L
   have hr64 := Rep.nilAt (α := Int) hS56 L
   have hr65 := Rep.nilAt (α := Int) hS56 L
   have hc59 := Cells.at_ (cs := [.string ⟨#[115, 101, 97]⟩, .int .i64 0, .slice none 0 0, .slice none 0 0, .slice none 0 0, .bool true]) (xs := (([(⟨⟨#[115, 101, 97]⟩, (0 : Int), ([] : List Int), ([] : List Int), ([] : List Int), true⟩ : TUnit)] : List TUnit) : List TUnit)) hS56 L (Cells.cons (cs := [.string ⟨#[115, 101, 97]⟩, .int .i64 0, .slice none 0 0, .slice none 0 0, .slice none 0 0, .bool true]) (ds := []) (mk_TUnit ⟨#[115, 101, 97]⟩ (0 : Int) ([] : List Int) hr61 ([] : List Int) hr63 ([] : List Int) hr65 true) (Cells.nil _ _))
   obtain ⟨xs66, hxs66, h⟩ := bind_in h
   have hm67 := Cells.mv hc36 (Tr.trans hT40 (Tr.trans hT44 hT57))
   refine RG.doesL .plain rfl (DoesL.app (α := TUnit) (ys := ([(⟨⟨#[115, 101, 97]⟩, (0 : Int), ([] : List Int), ([] : List Int), ([] : List Int), true⟩ : TUnit)] : List TUnit)) (F := fun v' cs' => [.row w.heap.size 65 (Rep.size TUnit) (.slice (some ⟨b58, 0, none⟩) 1 1) (([(⟨⟨#[115, 101, 97]⟩, (0 : Int), ([] : List Int), ([] : List Int), ([] : List Int), true⟩ : TUnit)] : List TUnit).length) [.string ⟨#[115, 101, 97]⟩, .int .i64 0, .slice none 0 0, .slice none 0 0, .slice none 0 0, .bool true], .cells b41 [.int .i64 y24.fGroups, .int .i64 y24.fParties, .int .i64 y24.fLevels, v32] 44, .row w.heap.size 65 (Rep.size TUnit) v' xs66.length cs', .cells b20 [.int .i64 y3.fGroups, .int .i64 y3.fParties, .int .i64 y3.fLevels, v11] 44, .row w.heap.size 65 (Rep.size TUnit) v11 y3.fUnits.length cs12]) hxs66 hS56 (fun _ _ => (.tl (.tl .hd))) el42 rfl rfl hm67 (Src.row (α := TUnit) hS56 .hd hc59)) (fun v73 w68 ⟨cs72, hS69, hT70, hc71⟩ => ?_)
   refine RG.vv (FV.fieldAddr (off := 3) (by kernel_rfl) rfl) rfl ?_
   refine RG.now .plain (Acts.store (j := 3) (old := [.int .i64 y24.fGroups, .int .i64 y24.fParties, .int .i64 y24.fLevels, v32]) (news := [v73]) (new' := [.int .i64 y24.fGroups, .int .i64 y24.fParties, .int .i64 y24.fLevels, v73]) hS69 (.tl .hd) rfl rfl rfl (St.c1 (α := TUnit) hS69 (.tl (.tl .hd))) rfl rfl (ones_cons (St.o1 (α := TUnit) hS69 (.tl (.tl .hd))) ones_nil) rfl) (fun w75 hS76 hT77 => ?_)
   refine RG.nil ?_
   refine MX.sr ?_
   obtain ⟨y78, hy78, h⟩ := bind_in h
   refine RG.call' (fst := []) (cap := []) .plain body36 rfl evs_nil (fun w9 hw9 => own_gives (b0 := w.heap.size) (wardmotelaw22_four_c n _ w9 (hS76.hL hL hw9)  hy78) hw9 (Nat.le_trans hS76.ag.size hw9.size)) rfl (fun w79 vu80 hag81 ⟨v86, cs87, hu83, s82, hc88⟩ => ?_)
   subst hu83
   have hS84 := own_push hS76 s82
   have hT85 := own_tr hS76 s82
   have hc90 := Cells.at_ (cs := cs87) (xs := (y78.fUnits : List TUnit)) hS84 L (own_cells hc88)
   refine RG.new .plain rfl (Does.alloc (zs := [.int .i64 0, .int .i64 0, .int .i64 0, .slice none 0 0]) hS84 (zB (by kernel_rfl))) (fun w92 b95 hS93 hT94 => ?_)
   refine RG.now .plain (Acts.storeAll (news := [.int .i64 y78.fGroups, .int .i64 y78.fParties, .int .i64 y78.fLevels, v86]) hS93 .hd rfl rfl rfl rfl rfl rfl (ones_cons rfl (ones_cons rfl (ones_cons rfl (ones_cons (St.o1 (α := TUnit) hS93 (.tl .hd)) ones_nil))))) (fun w96 hS97 hT98 => ?_)
   refine RG.nil ?_
   refine MX.sr ?_
   refine RG.vv (FV.fieldAddr (off := 3) (by kernel_rfl) rfl) rfl ?_
   refine RG.vv (FV.load1 (by kernel_rfl) rfl ((hS97.memA .hd) 3 _ rfl)) rfl ?_
   obtain ⟨x99, hx99, h⟩ := bind_in h
   have hm107 := Cells.mv hc90 (Tr.trans hT94 hT98)
   obtain ⟨A100, c101, he102, hk103, cs104, hr105, hm106⟩ := St.nth (α := TUnit) hS97 (.tl .hd) hm107 hx99
   obtain ⟨b108, c109, he110⟩ := St.nthOwn (α := TUnit) hS97 (.tl .hd) hk103
   obtain rfl : A100 = ⟨b108, 0, none⟩ := by rw [he110] at he102; cases he102; rfl
   obtain ⟨v111, v112, v113, rfl, hr114, hr115, hr116⟩ := op_TUnit hr105
   refine RG.vv (FV.idxAddr (m := 6) (i := 2) (by kernel_rfl) rfl he102 rfl rfl hk103) rfl ?_
   refine RG.vv (FV.fieldAddr (off := 1) (by kernel_rfl) rfl) rfl ?_
   obtain ⟨c117, he118, hk119, cs120, hr121, hm122, hch123⟩ := St.nthAt (α := TUnit) hS97 (.tl .hd) hm107 hx99 he110
   obtain ⟨v124, v125, v126, rfl, hr127, hr128, hr129⟩ := op_TUnit hr121
   obtain ⟨xs130, hxs130, h⟩ := bind_in h
   refine RG.acts' .plain (Acts.setPart (α := TUnit) (i := 2) (tot := 1) (ds := [.string x99.fName, .int .i64 x99.fPeople, v124, v125, v126, .bool x99.fWater]) (news := [.int .i64 (-1)]) (full := [.string x99.fName, .int .i64 (-1), v124, v125, v126, .bool x99.fWater]) (F := fun cs' => [.cells b95 [.int .i64 y78.fGroups, .int .i64 y78.fParties, .int .i64 y78.fLevels, v86] 44, .row w.heap.size 65 (Rep.size TUnit) v86 xs130.length cs', .row w.heap.size 65 (Rep.size TUnit) (.slice (some ⟨b58, 0, none⟩) 1 1) (([(⟨⟨#[115, 101, 97]⟩, (0 : Int), ([] : List Int), ([] : List Int), ([] : List Int), true⟩ : TUnit)] : List TUnit).length) [.string ⟨#[115, 101, 97]⟩, .int .i64 0, .slice none 0 0, .slice none 0 0, .slice none 0 0, .bool true], .cells b41 [.int .i64 y24.fGroups, .int .i64 y24.fParties, .int .i64 y24.fLevels, v73] 44, .row w.heap.size 65 (Rep.size TUnit) v73 xs66.length cs72, .cells b20 [.int .i64 y3.fGroups, .int .i64 y3.fParties, .int .i64 y3.fLevels, v11] 44, .row w.heap.size 65 (Rep.size TUnit) v11 y3.fUnits.length cs12]) hxs130 hS97 he118 (fun _ => (.tl .hd)) hm107 hch123 rfl (by kernel_rfl) rfl rfl rfl rfl (mk_TUnit x99.fName (-1 : Int) x99.fGroups hr127 x99.fVotes hr128 x99.fParents hr129 x99.fWater) (by kernel_rfl) (ones_cons rfl ones_nil)) (fun w131 ⟨cs135, hS132, hT133, hc134⟩ => ?_)
   refine RG.nil ?_
   refine MX.sr ?_
   refine RG.vv (FV.buildV (vs := [.string ⟨#[120]⟩]) (u := .agg #[.string ⟨#[120]⟩, .int .i64 0, .slice none 0 0, .slice none 0 0, .slice none 0 0, .bool false]) (evs_cons rfl evs_nil) (fun w9 => by kernel_rfl)) rfl ?_
   refine RG.vv (FV.buildV (vs := [.string ⟨#[121]⟩]) (u := .agg #[.string ⟨#[121]⟩, .int .i64 0, .slice none 0 0, .slice none 0 0, .slice none 0 0, .bool false]) (evs_cons rfl evs_nil) (fun w9 => by kernel_rfl)) rfl ?_
   have hr137 := Rep.nilAt (α := Int) hS132 L
   have hr138 := Rep.nilAt (α := Int) hS132 L
   have hr139 := Rep.nilAt (α := Int) hS132 L
   have hr140 := Rep.nilAt (α := Int) hS132 L
   have hr141 := Rep.nilAt (α := Int) hS132 L
   have hr142 := Rep.nilAt (α := Int) hS132 L
   have hr143 := Rep.nilAt (α := Int) hS132 L
   have hr144 := Rep.nilAt (α := Int) hS132 L
   have hr145 := Rep.nilAt (α := Int) hS132 L
   have hr146 := Rep.nilAt (α := Int) hS132 L
   have hr147 := Rep.nilAt (α := Int) hS132 L
   have hr148 := Rep.nilAt (α := Int) hS132 L
   have hr149 := Rep.nilAt (α := Int) hS132 L
   have hr150 := Rep.nilAt (α := Int) hS132 L
   have hr151 := Rep.nilAt (α := Int) hS132 L
   have hr152 := Rep.nilAt (α := Int) hS132 L
   have hr153 := Rep.nilAt (α := Int) hS132 L
   have hr154 := Rep.nilAt (α := Int) hS132 L
   refine RG.new .plain rfl (Does.build (α := TUnit) (xs := ([(⟨⟨#[120]⟩, (0 : Int), ([] : List Int), ([] : List Int), ([] : List Int), false⟩ : TUnit), (⟨⟨#[121]⟩, (0 : Int), ([] : List Int), ([] : List Int), ([] : List Int), false⟩ : TUnit)] : List TUnit)) (vs := [.agg #[.string ⟨#[120]⟩, .int .i64 0, .slice none 0 0, .slice none 0 0, .slice none 0 0, .bool false], .agg #[.string ⟨#[121]⟩, .int .i64 0, .slice none 0 0, .slice none 0 0, .slice none 0 0, .bool false]]) (ds' := [.string ⟨#[120]⟩, .int .i64 0, .slice none 0 0, .slice none 0 0, .slice none 0 0, .bool false, .string ⟨#[121]⟩, .int .i64 0, .slice none 0 0, .slice none 0 0, .slice none 0 0, .bool false]) rfl hS132 el42 rfl (evs_cons rfl (evs_cons rfl evs_nil)) (by kernel_rfl) rfl) (fun w155 b158 hS156 hT157 => ?_)
   have hr160 := Rep.nilAt (α := Int) hS156 L
   have hr161 := Rep.nilAt (α := Int) hS156 L
   have hr162 := Rep.nilAt (α := Int) hS156 L
   have hr163 := Rep.nilAt (α := Int) hS156 L
   have hr164 := Rep.nilAt (α := Int) hS156 L
   have hr165 := Rep.nilAt (α := Int) hS156 L
   have hr166 := Rep.nilAt (α := Int) hS156 L
   have hr167 := Rep.nilAt (α := Int) hS156 L
   have hr168 := Rep.nilAt (α := Int) hS156 L
   have hr169 := Rep.nilAt (α := Int) hS156 L
   have hr170 := Rep.nilAt (α := Int) hS156 L
   have hr171 := Rep.nilAt (α := Int) hS156 L
   have hc159 := Cells.at_ (cs := [.string ⟨#[120]⟩, .int .i64 0, .slice none 0 0, .slice none 0 0, .slice none 0 0, .bool false, .string ⟨#[121]⟩, .int .i64 0, .slice none 0 0, .slice none 0 0, .slice none 0 0, .bool false]) (xs := (([(⟨⟨#[120]⟩, (0 : Int), ([] : List Int), ([] : List Int), ([] : List Int), false⟩ : TUnit), (⟨⟨#[121]⟩, (0 : Int), ([] : List Int), ([] : List Int), ([] : List Int), false⟩ : TUnit)] : List TUnit) : List TUnit)) hS156 L (Cells.cons (cs := [.string ⟨#[120]⟩, .int .i64 0, .slice none 0 0, .slice none 0 0, .slice none 0 0, .bool false]) (ds := [.string ⟨#[121]⟩, .int .i64 0, .slice none 0 0, .slice none 0 0, .slice none 0 0, .bool false]) (mk_TUnit ⟨#[120]⟩ (0 : Int) ([] : List Int) hr167 ([] : List Int) hr169 ([] : List Int) hr171 false) (Cells.cons (cs := [.string ⟨#[121]⟩, .int .i64 0, .slice none 0 0, .slice none 0 0, .slice none 0 0, .bool false]) (ds := []) (mk_TUnit ⟨#[121]⟩ (0 : Int) ([] : List Int) hr161 ([] : List Int) hr163 ([] : List Int) hr165 false) (Cells.nil _ _)))
   refine RG.vv (FV.buildV (vs := [(.slice (some ⟨b158, 0, none⟩) 2 2)]) (u := .agg #[.int .i64 0, .int .i64 0, .int .i64 0, (.slice (some ⟨b158, 0, none⟩) 2 2)]) (evs_cons rfl evs_nil) (fun w9 => by kernel_rfl)) rfl ?_
   refine RG.new .plain rfl (Does.alloc (zs := [.int .i64 0, .int .i64 0, .int .i64 0, .slice none 0 0]) hS156 (zB (by kernel_rfl))) (fun w173 b176 hS174 hT175 => ?_)
   refine RG.now .plain (Acts.storeAll (news := [.int .i64 0, .int .i64 0, .int .i64 0, (.slice (some ⟨b158, 0, none⟩) 2 2)]) hS174 .hd rfl rfl rfl rfl rfl rfl (ones_cons rfl (ones_cons rfl (ones_cons rfl (ones_cons (St.o1 (α := TUnit) hS174 (.tl .hd)) ones_nil))))) (fun w177 hS178 hT179 => ?_)
   refine RG.nil ?_
   refine MX.seq ?_
   refine MX.join (α := Bool) (fun q1792 => [(1, .pointer (some ⟨b20, 0, none⟩)), (3, .pointer (some ⟨b95, 0, none⟩)), (4, .pointer (some ⟨b176, 0, none⟩)), (5, .bool q1792)]) (fun q1792 wx1792 => St w wx1792 [.cells b176 [.int .i64 0, .int .i64 0, .int .i64 0, (.slice (some ⟨b158, 0, none⟩) 2 2)] 44, .row w.heap.size 65 (Rep.size TUnit) (.slice (some ⟨b158, 0, none⟩) 2 2) (([(⟨⟨#[120]⟩, (0 : Int), ([] : List Int), ([] : List Int), ([] : List Int), false⟩ : TUnit), (⟨⟨#[121]⟩, (0 : Int), ([] : List Int), ([] : List Int), ([] : List Int), false⟩ : TUnit)] : List TUnit).length) [.string ⟨#[120]⟩, .int .i64 0, .slice none 0 0, .slice none 0 0, .slice none 0 0, .bool false, .string ⟨#[121]⟩, .int .i64 0, .slice none 0 0, .slice none 0 0, .slice none 0 0, .bool false], .cells b95 [.int .i64 y78.fGroups, .int .i64 y78.fParties, .int .i64 y78.fLevels, v86] 44, .row w.heap.size 65 (Rep.size TUnit) v86 xs130.length cs135, .cells b20 [.int .i64 y3.fGroups, .int .i64 y3.fParties, .int .i64 y3.fLevels, v11] 44, .row w.heap.size 65 (Rep.size TUnit) v11 y3.fUnits.length cs12] ∧ Tr w177 [.cells b176 [.int .i64 0, .int .i64 0, .int .i64 0, (.slice (some ⟨b158, 0, none⟩) 2 2)] 44, .row w.heap.size 65 (Rep.size TUnit) (.slice (some ⟨b158, 0, none⟩) 2 2) (([(⟨⟨#[120]⟩, (0 : Int), ([] : List Int), ([] : List Int), ([] : List Int), false⟩ : TUnit), (⟨⟨#[121]⟩, (0 : Int), ([] : List Int), ([] : List Int), ([] : List Int), false⟩ : TUnit)] : List TUnit).length) [.string ⟨#[120]⟩, .int .i64 0, .slice none 0 0, .slice none 0 0, .slice none 0 0, .bool false, .string ⟨#[121]⟩, .int .i64 0, .slice none 0 0, .slice none 0 0, .slice none 0 0, .bool false], .cells b95 [.int .i64 y78.fGroups, .int .i64 y78.fParties, .int .i64 y78.fLevels, v86] 44, .row w.heap.size 65 (Rep.size TUnit) v86 xs130.length cs135, .row w.heap.size 65 (Rep.size TUnit) (.slice (some ⟨b58, 0, none⟩) 1 1) (([(⟨⟨#[115, 101, 97]⟩, (0 : Int), ([] : List Int), ([] : List Int), ([] : List Int), true⟩ : TUnit)] : List TUnit).length) [.string ⟨#[115, 101, 97]⟩, .int .i64 0, .slice none 0 0, .slice none 0 0, .slice none 0 0, .bool true], .cells b41 [.int .i64 y24.fGroups, .int .i64 y24.fParties, .int .i64 y24.fLevels, v73] 44, .row w.heap.size 65 (Rep.size TUnit) v73 xs66.length cs72, .cells b20 [.int .i64 y3.fGroups, .int .i64 y3.fParties, .int .i64 y3.fLevels, v11] 44, .row w.heap.size 65 (Rep.size TUnit) v11 y3.fUnits.length cs12] wx1792 [.cells b176 [.int .i64 0, .int .i64 0, .int .i64 0, (.slice (some ⟨b158, 0, none⟩) 2 2)] 44, .row w.heap.size 65 (Rep.size TUnit) (.slice (some ⟨b158, 0, none⟩) 2 2) (([(⟨⟨#[120]⟩, (0 : Int), ([] : List Int), ([] : List Int), ([] : List Int), false⟩ : TUnit), (⟨⟨#[121]⟩, (0 : Int), ([] : List Int), ([] : List Int), ([] : List Int), false⟩ : TUnit)] : List TUnit).length) [.string ⟨#[120]⟩, .int .i64 0, .slice none 0 0, .slice none 0 0, .slice none 0 0, .bool false, .string ⟨#[121]⟩, .int .i64 0, .slice none 0 0, .slice none 0 0, .slice none 0 0, .bool false], .cells b95 [.int .i64 y78.fGroups, .int .i64 y78.fParties, .int .i64 y78.fLevels, v86] 44, .row w.heap.size 65 (Rep.size TUnit) v86 xs130.length cs135, .cells b20 [.int .i64 y3.fGroups, .int .i64 y3.fParties, .int .i64 y3.fLevels, v11] 44, .row w.heap.size 65 (Rep.size TUnit) v11 y3.fUnits.length cs12]) (fun q1792 => q1792) h ?_ ?_
   ·skip
    rintro q1792 wx1792 ⟨hS1793, hT1794⟩ h
    try dsimp only at h
    refine MX.sr ?_
    refine RG.vv (FV.loadN (by kernel_rfl) rfl (hS1793.memA (.tl (.tl .hd)))) rfl ?_
    obtain ⟨y1798, hy1798, h⟩ := bind_in h
    have hm1799 := Cells.mv hc134 (Tr.trans hT157 (Tr.trans hT175 (Tr.trans hT179 hT1794)))
    refine RG.cq (.tuple #[.agg ((cs_TShare y1798.1)).toArray, .int .i64 y1798.2]) body20 rfl (evs_cons rfl (evs_cons rfl evs_nil)) (fun w9 hw9 => balance_Ideal_c n _ w9 (hS1793.hL0 hL hw9) (⟨y78.fGroups, y78.fParties, y78.fLevels, xs130⟩ : TRoll) (Rep.keep0 (St.lend (α := TUnit) (L := L) hS1793 (.tl (.tl (.tl .hd))) hm1799 hL) hw9) (0 : Int) hy1798) rfl ?_
    refine RG.mv rfl rfl ?_
    refine RG.vv (FV.extract rfl rfl) rfl ?_
    refine RG.vv (FV.extract rfl rfl) rfl ?_
    refine RG.new .plain rfl (Does.alloc (zs := [.int .u64 0, .int .u64 0, .int .u64 0, .int .u64 0, .int .u64 0, .int .u64 0, .int .u64 0, .int .u64 0, .int .u64 0, .int .u64 0, .int .u64 0, .int .u64 0, .int .u64 0, .int .u64 0, .int .u64 0, .int .u64 0]) hS1793 (zB (by kernel_rfl))) (fun w1801 b1804 hS1802 hT1803 => ?_)
    refine RG.now .plain (Acts.storeAll (news := (cs_TShare y1798.1)) hS1802 .hd rfl rfl rfl rfl rfl rfl (onesB rfl)) (fun w1805 hS1806 hT1807 => ?_)
    refine RG.sg rfl rfl ?_
    refine RG.nil ?_
    refine MX.sr ?_
    refine RG.vv (FV.loadN (by kernel_rfl) rfl (hS1806.memA (.tl (.tl (.tl (.tl (.tl .hd))))))) rfl ?_
    obtain ⟨y1808, hy1808, h⟩ := bind_in h
    have hm1809 := Cells.mv hc15 (Tr.trans hT19 (Tr.trans hT23 (Tr.trans hT31 (Tr.trans hT40 (Tr.trans hT44 (Tr.trans hT57 (Tr.trans hT70 (Tr.trans hT77 (Tr.trans hT85 (Tr.trans hT94 (Tr.trans hT98 (Tr.trans hT133 (Tr.trans hT157 (Tr.trans hT175 (Tr.trans hT179 (Tr.trans hT1794 (Tr.trans hT1803 hT1807)))))))))))))))))
    refine RG.cq (.tuple #[.agg ((cs_TShare y1808.1)).toArray, .int .i64 y1808.2]) body20 rfl (evs_cons rfl (evs_cons rfl evs_nil)) (fun w9 hw9 => balance_Ideal_c n _ w9 (hS1806.hL0 hL hw9) y3 (Rep.keep0 (St.lend (α := TUnit) (L := L) hS1806 (.tl (.tl (.tl (.tl (.tl (.tl .hd)))))) hm1809 hL) hw9) (0 : Int) hy1808) rfl ?_
    refine RG.mv rfl rfl ?_
    refine RG.vv (FV.extract rfl rfl) rfl ?_
    refine RG.vv (FV.extract rfl rfl) rfl ?_
    refine RG.new .plain rfl (Does.alloc (zs := [.int .u64 0, .int .u64 0, .int .u64 0, .int .u64 0, .int .u64 0, .int .u64 0, .int .u64 0, .int .u64 0, .int .u64 0, .int .u64 0, .int .u64 0, .int .u64 0, .int .u64 0, .int .u64 0, .int .u64 0, .int .u64 0]) hS1806 (zB (by kernel_rfl))) (fun w1811 b1814 hS1812 hT1813 => ?_)
    refine RG.now .plain (Acts.storeAll (news := (cs_TShare y1808.1)) hS1812 .hd rfl rfl rfl rfl rfl rfl (onesB rfl)) (fun w1815 hS1816 hT1817 => ?_)
    refine RG.sg rfl rfl ?_
    refine RG.nil ?_
    refine MX.sr ?_
    refine RG.vv (FV.loadN (by kernel_rfl) rfl (hS1816.memA (.tl (.tl .hd)))) rfl ?_
    refine RG.new .plain rfl (Does.build (α := Int) (xs := ([(0 : Int), (1 : Int)] : List Int)) (vs := [.int .i64 0, .int .i64 1]) (ds' := [.int .i64 0, .int .i64 1]) rfl hS1816 el46 rfl (evs_cons rfl (evs_cons rfl evs_nil)) (by kernel_rfl) rfl) (fun w1819 b1822 hS1820 hT1821 => ?_)
    have hc1823 := Cells.at_ (cs := [.int .i64 0, .int .i64 1]) (xs := (([(0 : Int), (1 : Int)] : List Int) : List Int)) hS1820 L (Cells.cons (cs := [.int .i64 0]) (ds := [.int .i64 1]) rfl (Cells.cons (cs := [.int .i64 1]) (ds := []) rfl (Cells.nil _ _)))
    have hm1828 := Cells.mv hc159 (Tr.trans hT175 (Tr.trans hT179 (Tr.trans hT1794 (Tr.trans hT1803 (Tr.trans hT1807 (Tr.trans hT1813 (Tr.trans hT1817 hT1821)))))))
    have hr1825 := St.freeze (α := TUnit) hS1820 (.tl (.tl (.tl (.tl .hd)))) hm1828 hL
    have hS1826 := St.delS hS1820 (.tl (.tl (.tl (.tl .hd))))
    have hT1827 := St.delT hS1820 (.tl (.tl (.tl (.tl .hd))))
    have hr1829 := Rep.at_ (α := TUnit) (v := (.slice (some ⟨b158, 0, none⟩) 2 2)) (xs := ([(⟨⟨#[120]⟩, (0 : Int), ([] : List Int), ([] : List Int), ([] : List Int), false⟩ : TUnit), (⟨⟨#[121]⟩, (0 : Int), ([] : List Int), ([] : List Int), ([] : List Int), false⟩ : TUnit)] : List TUnit)) hS1826 L hr1825
    have hm1833 := Cells.mv hc1823 hT1827
    have hr1830 := St.freeze (α := Int) hS1826 .hd hm1833 hL
    have hS1831 := St.delS hS1826 .hd
    have hT1832 := St.delT hS1826 .hd
    have hr1834 := Rep.at_ (α := Int) (v := (.slice (some ⟨b1822, 0, none⟩) 2 2)) (xs := ([(0 : Int), (1 : Int)] : List Int)) hS1831 L hr1830
    obtain ⟨y1824, hy1824, h⟩ := bind_in h
    have hm1835 := Rep.mv hr1829 hT1832
    refine RG.call' (fst := []) (cap := []) .plain body22 rfl (evs_cons rfl (evs_cons rfl (evs_cons rfl evs_nil))) (fun w9 hw9 => balance_Off_c n _ w9 (hS1831.hL hL hw9) (⟨(0 : Int), (0 : Int), (0 : Int), ([(⟨⟨#[120]⟩, (0 : Int), ([] : List Int), ([] : List Int), ([] : List Int), false⟩ : TUnit), (⟨⟨#[121]⟩, (0 : Int), ([] : List Int), ([] : List Int), ([] : List Int), false⟩ : TUnit)] : List TUnit)⟩ : TRoll) (Rep.keep0 hm1835 hw9) ([(0 : Int), (1 : Int)] : List Int) (Rep.keep0 hr1834 hw9) (2 : Int) hy1824) rfl (fun w1836 vu1837 hag1838 ⟨v1841, hu_, hr1842⟩ => ?_)
    subst hu_
    obtain ⟨hS1839, hT1840⟩ := hS1831.agr hag1838
    refine RG.mv rfl rfl ?_
    refine RG.vv (FV.extract rfl rfl) rfl ?_
    refine RG.vv (FV.extract rfl rfl) rfl ?_
    refine RG.sg rfl rfl ?_
    refine RG.sg rfl rfl ?_
    refine RG.nil ?_
    refine MX.sr ?_
    refine RG.vv (FV.loadN (by kernel_rfl) rfl (hS1839.memA (.tl (.tl .hd)))) rfl ?_
    refine RG.new .plain rfl (Does.build (α := Int) (xs := ([(0 : Int), (0 : Int)] : List Int)) (vs := [.int .i64 0, .int .i64 0]) (ds' := [.int .i64 0, .int .i64 0]) rfl hS1839 el46 rfl (evs_cons rfl (evs_cons rfl evs_nil)) (by kernel_rfl) rfl) (fun w1844 b1847 hS1845 hT1846 => ?_)
    have hc1848 := Cells.at_ (cs := [.int .i64 0, .int .i64 0]) (xs := (([(0 : Int), (0 : Int)] : List Int) : List Int)) hS1845 L (Cells.cons (cs := [.int .i64 0]) (ds := [.int .i64 0]) rfl (Cells.cons (cs := [.int .i64 0]) (ds := []) rfl (Cells.nil _ _)))
    obtain ⟨y1849, hy1849, h⟩ := bind_in h
    have hm1850 := Rep.mv hr1829 (Tr.trans hT1832 (Tr.trans hT1840 hT1846))
    refine RG.cq (.tuple #[.agg ((cs_TShare y1849.1)).toArray, .int .i64 y1849.2]) body33 rfl (evs_cons rfl (evs_cons rfl (evs_cons rfl evs_nil))) (fun w9 hw9 => balance_Spread_c n _ w9 (hS1845.hL0 hL hw9) (⟨(0 : Int), (0 : Int), (0 : Int), ([(⟨⟨#[120]⟩, (0 : Int), ([] : List Int), ([] : List Int), ([] : List Int), false⟩ : TUnit), (⟨⟨#[121]⟩, (0 : Int), ([] : List Int), ([] : List Int), ([] : List Int), false⟩ : TUnit)] : List TUnit)⟩ : TRoll) (Rep.keep0 (Rep.dropS hS1845 hm1850) hw9) ([(0 : Int), (0 : Int)] : List Int) (Rep.keep0 (St.lend (α := Int) (L := L) hS1845 .hd hc1848 hL) hw9) (2 : Int) hy1849) rfl ?_
    refine RG.mv rfl rfl ?_
    refine RG.vv (FV.extract rfl rfl) rfl ?_
    refine RG.vv (FV.extract rfl rfl) rfl ?_
    refine RG.new .plain rfl (Does.alloc (zs := [.int .u64 0, .int .u64 0, .int .u64 0, .int .u64 0, .int .u64 0, .int .u64 0, .int .u64 0, .int .u64 0, .int .u64 0, .int .u64 0, .int .u64 0, .int .u64 0, .int .u64 0, .int .u64 0, .int .u64 0, .int .u64 0]) hS1845 (zB (by kernel_rfl))) (fun w1852 b1855 hS1853 hT1854 => ?_)
    refine RG.now .plain (Acts.storeAll (news := (cs_TShare y1849.1)) hS1853 .hd rfl rfl rfl rfl rfl rfl (onesB rfl)) (fun w1856 hS1857 hT1858 => ?_)
    refine RG.sg rfl rfl ?_
    refine RG.nil ?_
    refine MX.sr ?_
    refine RG.vv (FV.loadN (by kernel_rfl) rfl (hS1857.memA (.tl (.tl (.tl (.tl (.tl (.tl (.tl .hd))))))))) rfl ?_
    refine RG.vv (FV.buildV (vs := []) (u := .agg #[.int .u64 0, .int .u64 0, .int .u64 0, .int .u64 0, .int .u64 0, .int .u64 0, .int .u64 0, .int .u64 0, .int .u64 0, .int .u64 0, .int .u64 0, .int .u64 0, .int .u64 0, .int .u64 0, .int .u64 0, .int .u64 0]) evs_nil (fun w9 => by kernel_rfl)) rfl ?_
    obtain ⟨y1859, hy1859, h⟩ := bind_in h
    have hm1860 := Cells.mv hc15 (Tr.trans hT19 (Tr.trans hT23 (Tr.trans hT31 (Tr.trans hT40 (Tr.trans hT44 (Tr.trans hT57 (Tr.trans hT70 (Tr.trans hT77 (Tr.trans hT85 (Tr.trans hT94 (Tr.trans hT98 (Tr.trans hT133 (Tr.trans hT157 (Tr.trans hT175 (Tr.trans hT179 (Tr.trans hT1794 (Tr.trans hT1803 (Tr.trans hT1807 (Tr.trans hT1813 (Tr.trans hT1817 (Tr.trans hT1821 (Tr.trans hT1827 (Tr.trans hT1832 (Tr.trans hT1840 (Tr.trans hT1846 (Tr.trans hT1854 hT1858))))))))))))))))))))))))))
    refine RG.cq (.tuple #[.int .i64 y1859.1, .int .i64 y1859.2.1, .int .i64 y1859.2.2]) body13 rfl (evs_cons rfl (evs_cons rfl (evs_cons rfl evs_nil))) (fun w9 hw9 => balance_Bounds_c n _ w9 (hS1857.hL0 hL hw9) y3 (Rep.keep0 (St.lend (α := TUnit) (L := L) hS1857 (.tl (.tl (.tl (.tl (.tl (.tl (.tl (.tl .hd)))))))) hm1860 hL) hw9) (0 : Int) (⟨((0 : UInt64), (0 : UInt64), (0 : UInt64), (0 : UInt64), (0 : UInt64), (0 : UInt64), (0 : UInt64), (0 : UInt64)), ((0 : UInt64), (0 : UInt64), (0 : UInt64), (0 : UInt64), (0 : UInt64), (0 : UInt64), (0 : UInt64), (0 : UInt64))⟩ : TShare) hy1859) rfl ?_
    refine RG.mv rfl rfl ?_
    refine RG.vv (FV.extract rfl rfl) rfl ?_
    refine RG.vv (FV.extract rfl rfl) rfl ?_
    refine RG.vv (FV.extract rfl rfl) rfl ?_
    refine RG.sg rfl rfl ?_
    refine RG.sg rfl rfl ?_
    refine RG.sg rfl rfl ?_
    refine RG.nil ?_
    refine MX.sr ?_
    refine RG.vv (FV.loadN (by kernel_rfl) rfl (hS1857.memA (.tl (.tl (.tl (.tl (.tl (.tl (.tl .hd))))))))) rfl ?_
    refine RG.vv (FV.buildV (vs := []) (u := .agg #[.int .u64 0, .int .u64 0, .int .u64 0, .int .u64 0, .int .u64 0, .int .u64 0, .int .u64 0, .int .u64 0, .int .u64 0, .int .u64 0, .int .u64 0, .int .u64 0, .int .u64 0, .int .u64 0, .int .u64 0, .int .u64 0]) evs_nil (fun w9 => by kernel_rfl)) rfl ?_
    obtain ⟨y1861, hy1861, h⟩ := bind_in h
    refine RG.cq (.tuple #[.int .i64 y1861.1, .int .i64 y1861.2.1, .int .i64 y1861.2.2]) body13 rfl (evs_cons rfl (evs_cons rfl (evs_cons rfl evs_nil))) (fun w9 hw9 => balance_Bounds_c n _ w9 (hS1857.hL0 hL hw9) y3 (Rep.keep0 (St.lend (α := TUnit) (L := L) hS1857 (.tl (.tl (.tl (.tl (.tl (.tl (.tl (.tl .hd)))))))) hm1860 hL) hw9) (2 : Int) (⟨((0 : UInt64), (0 : UInt64), (0 : UInt64), (0 : UInt64), (0 : UInt64), (0 : UInt64), (0 : UInt64), (0 : UInt64)), ((0 : UInt64), (0 : UInt64), (0 : UInt64), (0 : UInt64), (0 : UInt64), (0 : UInt64), (0 : UInt64), (0 : UInt64))⟩ : TShare) hy1861) rfl ?_
    refine RG.mv rfl rfl ?_
    refine RG.vv (FV.extract rfl rfl) rfl ?_
    refine RG.vv (FV.extract rfl rfl) rfl ?_
    refine RG.vv (FV.extract rfl rfl) rfl ?_
    refine RG.sg rfl rfl ?_
    refine RG.sg rfl rfl ?_
    refine RG.sg rfl rfl ?_
    refine RG.nil ?_
    refine MX.seq ?_
    refine MX.drawT 10 tb6_16 (by kernel_rfl) (by kernel_rfl) (by kernel_rfl) (fun kt1862 kp1863 => ?_)
    refine RD.vx 0 1 1020 kt1862 rfl kp1863 (FV.loadN (by kernel_rfl) rfl (hS1857.memA (.tl (.tl (.tl (.tl (.tl (.tl (.tl .hd))))))))) rfl ?_
    obtain ⟨y1864, hy1864, h⟩ := bind_in h
    refine RD.cq 1 3 1020 (.agg ((cs_TShare y1864)).toArray) kt1862 rfl kp1863 body23 rfl (evs_cons rfl (evs_cons rfl evs_nil)) (fun w9 hw9 => wardmotelaw22_of_c n _ w9 (hS1857.hL0 hL hw9) (-1 : Int) (9 : Int) hy1864) rfl ?_
    obtain ⟨y1865, hy1865, h⟩ := bind_in h
    refine RD.cq 2 7 1016 (.tuple #[.int .i64 y1865.1, .int .i64 y1865.2.1, .int .i64 y1865.2.2]) kt1862 rfl kp1863 body13 rfl (evs_cons rfl (evs_cons rfl (evs_cons rfl evs_nil))) (fun w9 hw9 => balance_Bounds_c n _ w9 (hS1857.hL0 hL hw9) y3 (Rep.keep0 (St.lend (α := TUnit) (L := L) hS1857 (.tl (.tl (.tl (.tl (.tl (.tl (.tl (.tl .hd)))))))) hm1860 hL) hw9) (2 : Int) y1864 hy1865) rfl ?_
    refine RD.vw 3 15 kt1862 rfl kp1863 (fun _ => FV.move rfl) rfl ?_
    refine RD.vw 4 31 kt1862 rfl kp1863 (fun _ => FV.extract rfl rfl) rfl ?_
    refine RD.vw 5 63 kt1862 rfl kp1863 (fun _ => FV.extract rfl rfl) rfl ?_
    refine RD.vw 6 127 kt1862 rfl kp1863 (fun _ => FV.extract rfl rfl) rfl ?_
    refine RD.vw 7 255 kt1862 rfl kp1863 (fun _ => FV.assign rfl) rfl ?_
    refine RD.vw 8 511 kt1862 rfl kp1863 (fun _ => FV.assign rfl) rfl ?_
    refine RD.vw 9 1023 kt1862 rfl kp1863 (fun _ => FV.assign rfl) rfl ?_
    refine RD.done (doneD_ok kt1862 (by kernel_rfl)) ?_
    refine MX.seq ?_
    refine MX.drawT 10 tb6_17 (by kernel_rfl) (by kernel_rfl) (by kernel_rfl) (fun kt1866 kp1867 => ?_)
    refine RD.vx 0 1 1020 kt1866 rfl kp1867 (FV.loadN (by kernel_rfl) rfl (hS1857.memA (.tl (.tl (.tl (.tl (.tl (.tl (.tl .hd))))))))) rfl ?_
    obtain ⟨y1868, hy1868, h⟩ := bind_in h
    refine RD.cq 1 3 1020 (.agg ((cs_TShare y1868)).toArray) kt1866 rfl kp1867 body23 rfl (evs_cons rfl (evs_cons rfl evs_nil)) (fun w9 hw9 => wardmotelaw22_of_c n _ w9 (hS1857.hL0 hL hw9) (2 : Int) (1 : Int) hy1868) rfl ?_
    obtain ⟨y1869, hy1869, h⟩ := bind_in h
    refine RD.cq 2 7 1016 (.tuple #[.int .i64 y1869.1, .int .i64 y1869.2.1, .int .i64 y1869.2.2]) kt1866 rfl kp1867 body13 rfl (evs_cons rfl (evs_cons rfl (evs_cons rfl evs_nil))) (fun w9 hw9 => balance_Bounds_c n _ w9 (hS1857.hL0 hL hw9) y3 (Rep.keep0 (St.lend (α := TUnit) (L := L) hS1857 (.tl (.tl (.tl (.tl (.tl (.tl (.tl (.tl .hd)))))))) hm1860 hL) hw9) (3 : Int) y1868 hy1869) rfl ?_
    refine RD.vw 3 15 kt1866 rfl kp1867 (fun _ => FV.move rfl) rfl ?_
    refine RD.vw 4 31 kt1866 rfl kp1867 (fun _ => FV.extract rfl rfl) rfl ?_
    refine RD.vw 5 63 kt1866 rfl kp1867 (fun _ => FV.extract rfl rfl) rfl ?_
    refine RD.vw 6 127 kt1866 rfl kp1867 (fun _ => FV.extract rfl rfl) rfl ?_
    refine RD.vw 7 255 kt1866 rfl kp1867 (fun _ => FV.assign rfl) rfl ?_
    refine RD.vw 8 511 kt1866 rfl kp1867 (fun _ => FV.assign rfl) rfl ?_
    refine RD.vw 9 1023 kt1866 rfl kp1867 (fun _ => FV.assign rfl) rfl ?_
    refine RD.done (doneD_ok kt1866 (by kernel_rfl)) ?_
    refine MX.sr ?_
    refine RG.vv (FV.loadN (by kernel_rfl) rfl (hS1857.memA (.tl (.tl (.tl (.tl (.tl (.tl (.tl .hd))))))))) rfl ?_
    refine RG.new .plain rfl (Does.build (α := Int) (xs := ([(0 : Int), (0 : Int), (0 : Int), (0 : Int)] : List Int)) (vs := [.int .i64 0, .int .i64 0, .int .i64 0, .int .i64 0]) (ds' := [.int .i64 0, .int .i64 0, .int .i64 0, .int .i64 0]) rfl hS1857 el46 rfl (evs_cons rfl (evs_cons rfl (evs_cons rfl (evs_cons rfl evs_nil)))) (by kernel_rfl) rfl) (fun w1871 b1874 hS1872 hT1873 => ?_)
    have hc1875 := Cells.at_ (cs := [.int .i64 0, .int .i64 0, .int .i64 0, .int .i64 0]) (xs := (([(0 : Int), (0 : Int), (0 : Int), (0 : Int)] : List Int) : List Int)) hS1872 L (Cells.cons (cs := [.int .i64 0]) (ds := [.int .i64 0, .int .i64 0, .int .i64 0]) rfl (Cells.cons (cs := [.int .i64 0]) (ds := [.int .i64 0, .int .i64 0]) rfl (Cells.cons (cs := [.int .i64 0]) (ds := [.int .i64 0]) rfl (Cells.cons (cs := [.int .i64 0]) (ds := []) rfl (Cells.nil _ _)))))
    refine RG.vv (FV.buildV (vs := []) (u := .agg #[.int .u64 0, .int .u64 0, .int .u64 0, .int .u64 0, .int .u64 0, .int .u64 0, .int .u64 0, .int .u64 0, .int .u64 0, .int .u64 0, .int .u64 0, .int .u64 0, .int .u64 0, .int .u64 0, .int .u64 0, .int .u64 0]) evs_nil (fun w9 => by kernel_rfl)) rfl ?_
    obtain ⟨y1876, hy1876, h⟩ := bind_in h
    have hm1877 := Cells.mv hc15 (Tr.trans hT19 (Tr.trans hT23 (Tr.trans hT31 (Tr.trans hT40 (Tr.trans hT44 (Tr.trans hT57 (Tr.trans hT70 (Tr.trans hT77 (Tr.trans hT85 (Tr.trans hT94 (Tr.trans hT98 (Tr.trans hT133 (Tr.trans hT157 (Tr.trans hT175 (Tr.trans hT179 (Tr.trans hT1794 (Tr.trans hT1803 (Tr.trans hT1807 (Tr.trans hT1813 (Tr.trans hT1817 (Tr.trans hT1821 (Tr.trans hT1827 (Tr.trans hT1832 (Tr.trans hT1840 (Tr.trans hT1846 (Tr.trans hT1854 (Tr.trans hT1858 hT1873)))))))))))))))))))))))))))
    refine RG.cq (.tuple #[.bool y1876.1, .int .i64 y1876.2]) body15 rfl (evs_cons rfl (evs_cons rfl (evs_cons rfl (evs_cons rfl evs_nil)))) (fun w9 hw9 => balance_Within_c n _ w9 (hS1872.hL0 hL hw9) y3 (Rep.keep0 (St.lend (α := TUnit) (L := L) hS1872 (.tl (.tl (.tl (.tl (.tl (.tl (.tl (.tl (.tl .hd))))))))) hm1877 hL) hw9) ([(0 : Int), (0 : Int), (0 : Int), (0 : Int)] : List Int) (Rep.keep0 (St.lend (α := Int) (L := L) hS1872 .hd hc1875 hL) hw9) (2 : Int) (⟨((0 : UInt64), (0 : UInt64), (0 : UInt64), (0 : UInt64), (0 : UInt64), (0 : UInt64), (0 : UInt64), (0 : UInt64)), ((0 : UInt64), (0 : UInt64), (0 : UInt64), (0 : UInt64), (0 : UInt64), (0 : UInt64), (0 : UInt64), (0 : UInt64))⟩ : TShare) hy1876) rfl ?_
    refine RG.mv rfl rfl ?_
    refine RG.vv (FV.extract rfl rfl) rfl ?_
    refine RG.vv (FV.extract rfl rfl) rfl ?_
    refine RG.sg rfl rfl ?_
    refine RG.sg rfl rfl ?_
    refine RG.nil ?_
    refine MX.sr ?_
    refine RG.vv (FV.buildV (vs := [.int .u64 0, .int .u64 1]) (u := .agg #[.int .u64 0, .int .u64 1, .int .u64 0, .int .u64 0, .int .u64 0, .int .u64 0, .int .u64 0, .int .u64 0]) (evs_cons rfl (evs_cons rfl evs_nil)) (fun w9 => by kernel_rfl)) rfl ?_
    refine RG.vv (FV.buildV (vs := [.int .u64 1]) (u := .agg #[.int .u64 1, .int .u64 0, .int .u64 0, .int .u64 0, .int .u64 0, .int .u64 0, .int .u64 0, .int .u64 0]) (evs_cons rfl evs_nil) (fun w9 => by kernel_rfl)) rfl ?_
    refine RG.vv (FV.buildV (vs := [.agg #[.int .u64 0, .int .u64 1, .int .u64 0, .int .u64 0, .int .u64 0, .int .u64 0, .int .u64 0, .int .u64 0], .agg #[.int .u64 1, .int .u64 0, .int .u64 0, .int .u64 0, .int .u64 0, .int .u64 0, .int .u64 0, .int .u64 0]]) (u := .agg #[.int .u64 0, .int .u64 1, .int .u64 0, .int .u64 0, .int .u64 0, .int .u64 0, .int .u64 0, .int .u64 0, .int .u64 1, .int .u64 0, .int .u64 0, .int .u64 0, .int .u64 0, .int .u64 0, .int .u64 0, .int .u64 0]) (evs_cons rfl (evs_cons rfl evs_nil)) (fun w9 => by kernel_rfl)) rfl ?_
    refine RG.new .plain rfl (Does.alloc (zs := [.int .u64 0, .int .u64 0, .int .u64 0, .int .u64 0, .int .u64 0, .int .u64 0, .int .u64 0, .int .u64 0, .int .u64 0, .int .u64 0, .int .u64 0, .int .u64 0, .int .u64 0, .int .u64 0, .int .u64 0, .int .u64 0]) hS1872 (zB (by kernel_rfl))) (fun w1879 b1882 hS1880 hT1881 => ?_)
    refine RG.now .plain (Acts.storeAll (news := [.int .u64 0, .int .u64 1, .int .u64 0, .int .u64 0, .int .u64 0, .int .u64 0, .int .u64 0, .int .u64 0, .int .u64 1, .int .u64 0, .int .u64 0, .int .u64 0, .int .u64 0, .int .u64 0, .int .u64 0, .int .u64 0]) hS1880 .hd rfl rfl rfl rfl rfl rfl (onesB rfl)) (fun w1883 hS1884 hT1885 => ?_)
    refine RG.nil ?_
    refine MX.sr ?_
    refine RG.vv (FV.loadN (by kernel_rfl) rfl (hS1884.memA (.tl (.tl (.tl (.tl (.tl (.tl (.tl (.tl (.tl .hd))))))))))) rfl ?_
    refine RG.vv (FV.loadN (by kernel_rfl) rfl (hS1884.memA .hd)) rfl ?_
    obtain ⟨y1886, hy1886, h⟩ := bind_in h
    have hm1887 := Cells.mv hc15 (Tr.trans hT19 (Tr.trans hT23 (Tr.trans hT31 (Tr.trans hT40 (Tr.trans hT44 (Tr.trans hT57 (Tr.trans hT70 (Tr.trans hT77 (Tr.trans hT85 (Tr.trans hT94 (Tr.trans hT98 (Tr.trans hT133 (Tr.trans hT157 (Tr.trans hT175 (Tr.trans hT179 (Tr.trans hT1794 (Tr.trans hT1803 (Tr.trans hT1807 (Tr.trans hT1813 (Tr.trans hT1817 (Tr.trans hT1821 (Tr.trans hT1827 (Tr.trans hT1832 (Tr.trans hT1840 (Tr.trans hT1846 (Tr.trans hT1854 (Tr.trans hT1858 (Tr.trans hT1873 (Tr.trans hT1881 hT1885)))))))))))))))))))))))))))))
    refine RG.cq (.tuple #[.int .i64 y1886.1, .int .i64 y1886.2.1, .int .i64 y1886.2.2]) body13 rfl (evs_cons rfl (evs_cons rfl (evs_cons rfl evs_nil))) (fun w9 hw9 => balance_Bounds_c n _ w9 (hS1884.hL0 hL hw9) y3 (Rep.keep0 (St.lend (α := TUnit) (L := L) hS1884 (.tl (.tl (.tl (.tl (.tl (.tl (.tl (.tl (.tl (.tl .hd)))))))))) hm1887 hL) hw9) (2 : Int) (⟨((0 : UInt64), (1 : UInt64), (0 : UInt64), (0 : UInt64), (0 : UInt64), (0 : UInt64), (0 : UInt64), (0 : UInt64)), ((1 : UInt64), (0 : UInt64), (0 : UInt64), (0 : UInt64), (0 : UInt64), (0 : UInt64), (0 : UInt64), (0 : UInt64))⟩ : TShare) hy1886) rfl ?_
    refine RG.mv rfl rfl ?_
    refine RG.vv (FV.extract rfl rfl) rfl ?_
    refine RG.vv (FV.extract rfl rfl) rfl ?_
    refine RG.vv (FV.extract rfl rfl) rfl ?_
    refine RG.sg rfl rfl ?_
    refine RG.sg rfl rfl ?_
    refine RG.sg rfl rfl ?_
    refine RG.nil ?_
    refine MX.seq ?_
    refine MX.join (α := Bool) (fun q1905 => [(1, .pointer (some ⟨b20, 0, none⟩)), (4, .pointer (some ⟨b176, 0, none⟩)), (5, .bool q1905)]) (fun q1905 wx1905 => St w wx1905 [.cells b176 [.int .i64 0, .int .i64 0, .int .i64 0, (.slice (some ⟨b158, 0, none⟩) 2 2)] 44, .cells b20 [.int .i64 y3.fGroups, .int .i64 y3.fParties, .int .i64 y3.fLevels, v11] 44, .row w.heap.size 65 (Rep.size TUnit) v11 y3.fUnits.length cs12] ∧ Tr w1883 [.cells b1882 [.int .u64 0, .int .u64 1, .int .u64 0, .int .u64 0, .int .u64 0, .int .u64 0, .int .u64 0, .int .u64 0, .int .u64 1, .int .u64 0, .int .u64 0, .int .u64 0, .int .u64 0, .int .u64 0, .int .u64 0, .int .u64 0] 37, .row w.heap.size 3 (Rep.size Int) (.slice (some ⟨b1874, 0, none⟩) 4 4) (([(0 : Int), (0 : Int), (0 : Int), (0 : Int)] : List Int).length) [.int .i64 0, .int .i64 0, .int .i64 0, .int .i64 0], .cells b1855 (cs_TShare y1849.1) 37, .row w.heap.size 3 (Rep.size Int) (.slice (some ⟨b1847, 0, none⟩) 2 2) (([(0 : Int), (0 : Int)] : List Int).length) [.int .i64 0, .int .i64 0], .cells b1814 (cs_TShare y1808.1) 37, .cells b1804 (cs_TShare y1798.1) 37, .cells b176 [.int .i64 0, .int .i64 0, .int .i64 0, (.slice (some ⟨b158, 0, none⟩) 2 2)] 44, .cells b95 [.int .i64 y78.fGroups, .int .i64 y78.fParties, .int .i64 y78.fLevels, v86] 44, .row w.heap.size 65 (Rep.size TUnit) v86 xs130.length cs135, .cells b20 [.int .i64 y3.fGroups, .int .i64 y3.fParties, .int .i64 y3.fLevels, v11] 44, .row w.heap.size 65 (Rep.size TUnit) v11 y3.fUnits.length cs12] wx1905 [.cells b176 [.int .i64 0, .int .i64 0, .int .i64 0, (.slice (some ⟨b158, 0, none⟩) 2 2)] 44, .cells b20 [.int .i64 y3.fGroups, .int .i64 y3.fParties, .int .i64 y3.fLevels, v11] 44, .row w.heap.size 65 (Rep.size TUnit) v11 y3.fUnits.length cs12]) (fun q1905 => q1905) h ?_ ?_
    ·skip
     rintro q1905 wx1905 ⟨hS1906, hT1907⟩ h
     try dsimp only at h
     refine MX.seq ?_
     refine MX.drawT 39 tb6_22 (by kernel_rfl) (by kernel_rfl) (by kernel_rfl) (fun kt1911 kp1912 => ?_)
     refine RD.vw 0 1 kt1911 rfl kp1912 (fun _ => FV.move rfl) rfl ?_
     refine RD.vP 1 3 kt1911 rfl kp1912 (.yes rfl rfl) (fun _ => FV.move rfl) rfl ?_
     refine RD.vw 2 7 kt1911 rfl kp1912 (fun _ => FV.pick_t rfl rfl) rfl ?_
     refine RD.vw 3 15 kt1911 rfl kp1912 (fun _ => FV.move rfl) rfl ?_
     refine RD.ifb (s := 231) rfl h (fun c1913 h => ?_) (fun c1913 h => ?_)
     ·skip
      refine RD.val (i := 5) (m' := 47) (W := 549755813824) (takeC_ok kt1911 (by kernel_rfl)) rfl kp1912 (.yes rfl rfl) (FV.loadN (by kernel_rfl) rfl (hS1906.memA .hd)) rfl ?_
      refine RD.cl 4 63 kt1911 rfl (.yes rfl rfl) body21 rfl (evs_cons rfl (evs_cons rfl evs_nil)) (fun w9 hw9 => Calls.gives (wardmotelaw22_part_c n _ w9 (hS1906.hL hL hw9) (0 : Int) (1 : Int)) fun (w8 : World) (u8 : Value) ⟨b0_, b1_, hu_, s_⟩ => (⟨b0_, b1_, hu_, s_.from hw9⟩ : ∃ b1916 b1917 : Nat, u8 = Value.func (.func 72) #[] #[.pointer (some ⟨b1916, 0, none⟩), .pointer (some ⟨b1917, 0, none⟩)] ∧ St wx1905 w8 [.cells b1916 [.int .i64 0] 3, .cells b1917 [.int .i64 1] 3])) rfl (fun w1918 vu1919 hag1920 ⟨b1916, b1917, hu1922, s1921⟩ => ?_)
      subst hu1922
      have hS1923 : St w w1918 [.cells b1916 [.int .i64 0] 3, .cells b1917 [.int .i64 1] 3, .cells b176 [.int .i64 0, .int .i64 0, .int .i64 0, (.slice (some ⟨b158, 0, none⟩) 2 2)] 44, .cells b20 [.int .i64 y3.fGroups, .int .i64 y3.fParties, .int .i64 y3.fLevels, v11] 44, .row w.heap.size 65 (Rep.size TUnit) v11 y3.fUnits.length cs12] := St.merge hS1906 s1921
      have hT1924 : Tr wx1905 [.cells b176 [.int .i64 0, .int .i64 0, .int .i64 0, (.slice (some ⟨b158, 0, none⟩) 2 2)] 44, .cells b20 [.int .i64 y3.fGroups, .int .i64 y3.fParties, .int .i64 y3.fLevels, v11] 44, .row w.heap.size 65 (Rep.size TUnit) v11 y3.fUnits.length cs12] w1918 [.cells b1916 [.int .i64 0] 3, .cells b1917 [.int .i64 1] 3, .cells b176 [.int .i64 0, .int .i64 0, .int .i64 0, (.slice (some ⟨b158, 0, none⟩) 2 2)] 44, .cells b20 [.int .i64 y3.fGroups, .int .i64 y3.fParties, .int .i64 y3.fLevels, v11] 44, .row w.heap.size 65 (Rep.size TUnit) v11 y3.fUnits.length cs12] := Tr.merge hS1906 s1921
      obtain ⟨y1925, hy1925, h⟩ := bind_in h
      have hm1926 := Rep.mv hr1829 (Tr.trans hT1832 (Tr.trans hT1840 (Tr.trans hT1846 (Tr.trans hT1854 (Tr.trans hT1858 (Tr.trans hT1873 (Tr.trans hT1881 (Tr.trans hT1885 (Tr.trans hT1907 hT1924)))))))))
      refine RD.callq (i := 6) (m' := 127) (W := 549755813760) (takeC_ok kt1911 (by kernel_rfl)) rfl kp1912 (v := .tuple #[.agg ((cs_TShare y1925.1)).toArray, .int .i64 y1925.2]) (fst := []) (cap := []) (.yes rfl rfl) body20 rfl (evs_cons rfl (evs_cons rfl evs_nil)) (fun w9 hw9 => balance_Ideal_c n _ w9 (hS1923.hL0 hL hw9) (⟨(0 : Int), (0 : Int), (0 : Int), ([(⟨⟨#[120]⟩, (0 : Int), ([] : List Int), ([] : List Int), ([] : List Int), false⟩ : TUnit), (⟨⟨#[121]⟩, (0 : Int), ([] : List Int), ([] : List Int), ([] : List Int), false⟩ : TUnit)] : List TUnit)⟩ : TRoll) (Rep.keep0 (Rep.dropS hS1923 hm1926) hw9) (2 : Int) hy1925) rfl ?_
      refine RD.vP 7 255 kt1911 rfl kp1912 (.yes rfl rfl) (fun _ => FV.extract rfl rfl) rfl ?_
      refine RD.vP 8 511 kt1911 rfl kp1912 (.yes rfl rfl) (fun _ => FV.extract rfl rfl) rfl ?_
      obtain ⟨y1927, hy1927, h⟩ := bind_in h
      refine RD.callq (i := 9) (m' := 1023) (W := 549755812864) (takeC_ok kt1911 (by kernel_rfl)) rfl kp1912 (v := .bool y1927) (fst := []) (cap := [.pointer (some ⟨b1916, 0, none⟩), .pointer (some ⟨b1917, 0, none⟩)]) (.yes rfl rfl) body72 rfl (evs_cons rfl (evs_cons rfl evs_nil)) (fun w9 hw9 => wardmotelaw22_part_1_c n _ w9 (hS1923.hL0 hL hw9) y1925.1 y1925.2 (0 : Int) (fun j9 v9 h9 => hw9.cell0 ((hS1923.memA .hd) j9 v9 h9)) (1 : Int) (fun j9 v9 h9 => hw9.cell0 ((hS1923.memA (.tl .hd)) j9 v9 h9)) hy1927) rfl ?_
      refine RD.vw 10 2047 kt1911 rfl kp1912 (fun _ => FV.pick_t rfl rfl) rfl ?_
      refine RD.vw 11 4095 kt1911 rfl kp1912 (fun _ => FV.move rfl) rfl ?_
      refine RD.ifb (s := 239) rfl h (fun c1928 h => ?_) (fun c1928 h => ?_)
      ·skip
       refine RD.val (i := 13) (m' := 12287) (W := 549755748352) (takeC_ok kt1911 (by kernel_rfl)) rfl kp1912 (.yes rfl rfl) (FV.loadN (by kernel_rfl) rfl (hS1923.memA (.tl (.tl .hd)))) rfl ?_
       obtain ⟨y2538, hy2538, h⟩ := bind_in h
       refine RD.meet (α := Value × (List Value) × Nat) (fun ⟨v3445, cs3446, b3448⟩ => [(1, .pointer (some ⟨b20, 0, none⟩)), (239, .bool true), (241, .agg #[.int .i64 0, .int .i64 0, .int .i64 0, (.slice (some ⟨b158, 0, none⟩) 2 2)]), (240, .func (.func 92) #[] #[.pointer (some ⟨b3448, 0, none⟩)]), (243, .agg ((cs_TShare y2538)).toArray), (242, v3445)]) (fun ⟨v3445, cs3446, b3448⟩ wx3448 => St w wx3448 [.row w.heap.size 3 (Rep.size Int) v3445 (([(0 : Int), (1 : Int)] : List Int).length) cs3446, .cells b3448 [.bool true] 4, .cells b20 [.int .i64 y3.fGroups, .int .i64 y3.fParties, .int .i64 y3.fLevels, v11] 44, .row w.heap.size 65 (Rep.size TUnit) v11 y3.fUnits.length cs12] ∧ Tr w1918 [.cells b1916 [.int .i64 0] 3, .cells b1917 [.int .i64 1] 3, .cells b176 [.int .i64 0, .int .i64 0, .int .i64 0, (.slice (some ⟨b158, 0, none⟩) 2 2)] 44, .cells b20 [.int .i64 y3.fGroups, .int .i64 y3.fParties, .int .i64 y3.fLevels, v11] 44, .row w.heap.size 65 (Rep.size TUnit) v11 y3.fUnits.length cs12] wx3448 [.row w.heap.size 3 (Rep.size Int) v3445 (([(0 : Int), (1 : Int)] : List Int).length) cs3446, .cells b3448 [.bool true] 4, .cells b20 [.int .i64 y3.fGroups, .int .i64 y3.fParties, .int .i64 y3.fLevels, v11] 44, .row w.heap.size 65 (Rep.size TUnit) v11 y3.fUnits.length cs12] ∧ Cells wx3448 (bl [.row w.heap.size 3 (Rep.size Int) v3445 (([(0 : Int), (1 : Int)] : List Int).length) cs3446, .cells b3448 [.bool true] 4, .cells b20 [.int .i64 y3.fGroups, .int .i64 y3.fParties, .int .i64 y3.fLevels, v11] 44, .row w.heap.size 65 (Rep.size TUnit) v11 y3.fUnits.length cs12] ++ L) cs3446 (([(0 : Int), (1 : Int)] : List Int) : List Int)) 23 65535 ?_ ?_
       ·skip
        rintro ⟨v3445, cs3446, b3448⟩ wx3448 ⟨hS3449, hT3450, hc3447⟩
        try dsimp only
        obtain ⟨y3452, hy3452, h⟩ := bind_in h
        have hm3453 := Rep.mv hr1829 (Tr.trans hT1832 (Tr.trans hT1840 (Tr.trans hT1846 (Tr.trans hT1854 (Tr.trans hT1858 (Tr.trans hT1873 (Tr.trans hT1881 (Tr.trans hT1885 (Tr.trans hT1907 (Tr.trans hT1924 hT3450))))))))))
        refine RD.callq (i := 16) (m' := 131071) (W := 549755682816) (takeC_ok kt1911 (by kernel_rfl)) rfl kp1912 (v := .tuple #[.bool y3452.1, .int .i64 y3452.2]) (fst := []) (cap := []) (.yes rfl rfl) body15 rfl (evs_cons rfl (evs_cons rfl (evs_cons rfl (evs_cons rfl evs_nil)))) (fun w9 hw9 => balance_Within_c n _ w9 (hS3449.hL0 hL hw9) (⟨(0 : Int), (0 : Int), (0 : Int), ([(⟨⟨#[120]⟩, (0 : Int), ([] : List Int), ([] : List Int), ([] : List Int), false⟩ : TUnit), (⟨⟨#[121]⟩, (0 : Int), ([] : List Int), ([] : List Int), ([] : List Int), false⟩ : TUnit)] : List TUnit)⟩ : TRoll) (Rep.keep0 (Rep.dropS hS3449 hm3453) hw9) ([(0 : Int), (1 : Int)] : List Int) (Rep.keep0 (St.lend (α := Int) (L := L) hS3449 .hd hc3447 hL) hw9) (2 : Int) y2538 hy3452) rfl ?_
        refine RD.vP 17 262143 kt1911 rfl kp1912 (.yes rfl rfl) (fun _ => FV.extract rfl rfl) rfl ?_
        refine RD.vP 18 524287 kt1911 rfl kp1912 (.yes rfl rfl) (fun _ => FV.extract rfl rfl) rfl ?_
        obtain ⟨y3454, hy3454, h⟩ := bind_in h
        refine RD.callq (i := 19) (m' := 1048575) (W := 549754765312) (takeC_ok kt1911 (by kernel_rfl)) rfl kp1912 (v := .bool y3454) (fst := []) (cap := [.pointer (some ⟨b3448, 0, none⟩)]) (.yes rfl rfl) body92 rfl (evs_cons rfl (evs_cons rfl evs_nil)) (fun w9 hw9 => wardmotelaw22_truth_1_c n _ w9 (hS3449.hL0 hL hw9) y3452.1 y3452.2 true (fun j9 v9 h9 => hw9.cell0 ((hS3449.memA (.tl .hd)) j9 v9 h9)) hy3454) rfl ?_
        refine RD.vw 20 2097151 kt1911 rfl kp1912 (fun _ => FV.pick_t rfl rfl) rfl ?_
        refine RD.vw 21 4194303 kt1911 rfl kp1912 (fun _ => FV.move rfl) rfl ?_
        refine RD.ifb (s := 249) rfl h (fun c3455 h => ?_) (fun c3455 h => ?_)
        ·skip
         refine RD.val (i := 23) (m' := 12582911) (W := 549722259456) (takeC_ok kt1911 (by kernel_rfl)) rfl kp1912 (.yes rfl rfl) (FV.loadN (by kernel_rfl) rfl (hS3449.memA (.tl (.tl .hd)))) rfl ?_
         refine RD.meet (α := Value × (List Value) × Nat × Nat) (fun ⟨v4673, cs4674, b4676, b4677⟩ => [(1, .pointer (some ⟨b20, 0, none⟩)), (249, .bool true), (251, .agg #[.int .i64 y3.fGroups, .int .i64 y3.fParties, .int .i64 y3.fLevels, v11]), (250, .func (.func 72) #[] #[.pointer (some ⟨b4676, 0, none⟩), .pointer (some ⟨b4677, 0, none⟩)]), (252, v4673)]) (fun ⟨v4673, cs4674, b4676, b4677⟩ wx4677 => St w wx4677 [.row w.heap.size 3 (Rep.size Int) v4673 (([(0 : Int), (0 : Int), (0 : Int), (0 : Int)] : List Int).length) cs4674, .cells b4676 [.int .i64 0] 3, .cells b4677 [.int .i64 1] 3, .cells b20 [.int .i64 y3.fGroups, .int .i64 y3.fParties, .int .i64 y3.fLevels, v11] 44, .row w.heap.size 65 (Rep.size TUnit) v11 y3.fUnits.length cs12] ∧ Tr wx3448 [.row w.heap.size 3 (Rep.size Int) v3445 (([(0 : Int), (1 : Int)] : List Int).length) cs3446, .cells b3448 [.bool true] 4, .cells b20 [.int .i64 y3.fGroups, .int .i64 y3.fParties, .int .i64 y3.fLevels, v11] 44, .row w.heap.size 65 (Rep.size TUnit) v11 y3.fUnits.length cs12] wx4677 [.row w.heap.size 3 (Rep.size Int) v4673 (([(0 : Int), (0 : Int), (0 : Int), (0 : Int)] : List Int).length) cs4674, .cells b4676 [.int .i64 0] 3, .cells b4677 [.int .i64 1] 3, .cells b20 [.int .i64 y3.fGroups, .int .i64 y3.fParties, .int .i64 y3.fLevels, v11] 44, .row w.heap.size 65 (Rep.size TUnit) v11 y3.fUnits.length cs12] ∧ Cells wx4677 (bl [.row w.heap.size 3 (Rep.size Int) v4673 (([(0 : Int), (0 : Int), (0 : Int), (0 : Int)] : List Int).length) cs4674, .cells b4676 [.int .i64 0] 3, .cells b4677 [.int .i64 1] 3, .cells b20 [.int .i64 y3.fGroups, .int .i64 y3.fParties, .int .i64 y3.fLevels, v11] 44, .row w.heap.size 65 (Rep.size TUnit) v11 y3.fUnits.length cs12] ++ L) cs4674 (([(0 : Int), (0 : Int), (0 : Int), (0 : Int)] : List Int) : List Int)) 14 33554431 ?_ ?_
         ·skip
          rintro ⟨v4673, cs4674, b4676, b4677⟩ wx4677 ⟨hS4678, hT4679, hc4675⟩
          try dsimp only
          obtain ⟨y4681, hy4681, h⟩ := bind_in h
          have hm4682 := Cells.mv hc15 (Tr.trans hT19 (Tr.trans hT23 (Tr.trans hT31 (Tr.trans hT40 (Tr.trans hT44 (Tr.trans hT57 (Tr.trans hT70 (Tr.trans hT77 (Tr.trans hT85 (Tr.trans hT94 (Tr.trans hT98 (Tr.trans hT133 (Tr.trans hT157 (Tr.trans hT175 (Tr.trans hT179 (Tr.trans hT1794 (Tr.trans hT1803 (Tr.trans hT1807 (Tr.trans hT1813 (Tr.trans hT1817 (Tr.trans hT1821 (Tr.trans hT1827 (Tr.trans hT1832 (Tr.trans hT1840 (Tr.trans hT1846 (Tr.trans hT1854 (Tr.trans hT1858 (Tr.trans hT1873 (Tr.trans hT1881 (Tr.trans hT1885 (Tr.trans hT1907 (Tr.trans hT1924 (Tr.trans hT3450 hT4679)))))))))))))))))))))))))))))))))
          refine RD.callq (i := 25) (m' := 67108863) (W := 549688705024) (takeC_ok kt1911 (by kernel_rfl)) rfl kp1912 (v := .tuple #[.agg ((cs_TShare y4681.1)).toArray, .int .i64 y4681.2]) (fst := []) (cap := []) (.yes rfl rfl) body33 rfl (evs_cons rfl (evs_cons rfl (evs_cons rfl evs_nil))) (fun w9 hw9 => balance_Spread_c n _ w9 (hS4678.hL0 hL hw9) y3 (Rep.keep0 (St.lend (α := TUnit) (L := L) hS4678 (.tl (.tl (.tl (.tl .hd)))) hm4682 hL) hw9) ([(0 : Int), (0 : Int), (0 : Int), (0 : Int)] : List Int) (Rep.keep0 (St.lend (α := Int) (L := L) hS4678 .hd hc4675 hL) hw9) (1 : Int) hy4681) rfl ?_
          refine RD.vP 26 134217727 kt1911 rfl kp1912 (.yes rfl rfl) (fun _ => FV.extract rfl rfl) rfl ?_
          refine RD.vP 27 268435455 kt1911 rfl kp1912 (.yes rfl rfl) (fun _ => FV.extract rfl rfl) rfl ?_
          obtain ⟨y4683, hy4683, h⟩ := bind_in h
          refine RD.callq (i := 28) (m' := 536870911) (W := 549218942976) (takeC_ok kt1911 (by kernel_rfl)) rfl kp1912 (v := .bool y4683) (fst := []) (cap := [.pointer (some ⟨b4676, 0, none⟩), .pointer (some ⟨b4677, 0, none⟩)]) (.yes rfl rfl) body72 rfl (evs_cons rfl (evs_cons rfl evs_nil)) (fun w9 hw9 => wardmotelaw22_part_1_c n _ w9 (hS4678.hL0 hL hw9) y4681.1 y4681.2 (0 : Int) (fun j9 v9 h9 => hw9.cell0 ((hS4678.memA (.tl .hd)) j9 v9 h9)) (1 : Int) (fun j9 v9 h9 => hw9.cell0 ((hS4678.memA (.tl (.tl .hd))) j9 v9 h9)) hy4683) rfl ?_
          refine RD.vw 29 1073741823 kt1911 rfl kp1912 (fun _ => FV.pick_t rfl rfl) rfl ?_
          refine RD.vw 30 2147483647 kt1911 rfl kp1912 (fun _ => FV.move rfl) rfl ?_
          refine RD.ifb (s := 258) rfl h (fun c4684 h => ?_) (fun c4684 h => ?_)
          ·skip
           refine RD.val (i := 32) (m' := 6442450943) (W := 541165879296) (takeC_ok kt1911 (by kernel_rfl)) rfl kp1912 (.yes rfl rfl) (FV.loadN (by kernel_rfl) rfl (hS4678.memA (.tl (.tl (.tl .hd))))) rfl ?_
           refine RD.cl 31 8589934591 kt1911 rfl (.yes rfl rfl) body21 rfl (evs_cons rfl (evs_cons rfl evs_nil)) (fun w9 hw9 => Calls.gives (wardmotelaw22_part_c n _ w9 (hS4678.hL hL hw9) (100 : Int) (7 : Int)) fun (w8 : World) (u8 : Value) ⟨b0_, b1_, hu_, s_⟩ => (⟨b0_, b1_, hu_, s_.from hw9⟩ : ∃ b4687 b4688 : Nat, u8 = Value.func (.func 72) #[] #[.pointer (some ⟨b4687, 0, none⟩), .pointer (some ⟨b4688, 0, none⟩)] ∧ St wx4677 w8 [.cells b4687 [.int .i64 100] 3, .cells b4688 [.int .i64 7] 3])) rfl (fun w4689 vu4690 hag4691 ⟨b4687, b4688, hu4693, s4692⟩ => ?_)
           subst hu4693
           have hS4694 : St w w4689 [.cells b4687 [.int .i64 100] 3, .cells b4688 [.int .i64 7] 3, .row w.heap.size 3 (Rep.size Int) v4673 (([(0 : Int), (0 : Int), (0 : Int), (0 : Int)] : List Int).length) cs4674, .cells b4676 [.int .i64 0] 3, .cells b4677 [.int .i64 1] 3, .cells b20 [.int .i64 y3.fGroups, .int .i64 y3.fParties, .int .i64 y3.fLevels, v11] 44, .row w.heap.size 65 (Rep.size TUnit) v11 y3.fUnits.length cs12] := St.merge hS4678 s4692
           have hT4695 : Tr wx4677 [.row w.heap.size 3 (Rep.size Int) v4673 (([(0 : Int), (0 : Int), (0 : Int), (0 : Int)] : List Int).length) cs4674, .cells b4676 [.int .i64 0] 3, .cells b4677 [.int .i64 1] 3, .cells b20 [.int .i64 y3.fGroups, .int .i64 y3.fParties, .int .i64 y3.fLevels, v11] 44, .row w.heap.size 65 (Rep.size TUnit) v11 y3.fUnits.length cs12] w4689 [.cells b4687 [.int .i64 100] 3, .cells b4688 [.int .i64 7] 3, .row w.heap.size 3 (Rep.size Int) v4673 (([(0 : Int), (0 : Int), (0 : Int), (0 : Int)] : List Int).length) cs4674, .cells b4676 [.int .i64 0] 3, .cells b4677 [.int .i64 1] 3, .cells b20 [.int .i64 y3.fGroups, .int .i64 y3.fParties, .int .i64 y3.fLevels, v11] 44, .row w.heap.size 65 (Rep.size TUnit) v11 y3.fUnits.length cs12] := Tr.merge hS4678 s4692
           obtain ⟨y4696, hy4696, h⟩ := bind_in h
           have hm4697 := Cells.mv hc15 (Tr.trans hT19 (Tr.trans hT23 (Tr.trans hT31 (Tr.trans hT40 (Tr.trans hT44 (Tr.trans hT57 (Tr.trans hT70 (Tr.trans hT77 (Tr.trans hT85 (Tr.trans hT94 (Tr.trans hT98 (Tr.trans hT133 (Tr.trans hT157 (Tr.trans hT175 (Tr.trans hT179 (Tr.trans hT1794 (Tr.trans hT1803 (Tr.trans hT1807 (Tr.trans hT1813 (Tr.trans hT1817 (Tr.trans hT1821 (Tr.trans hT1827 (Tr.trans hT1832 (Tr.trans hT1840 (Tr.trans hT1846 (Tr.trans hT1854 (Tr.trans hT1858 (Tr.trans hT1873 (Tr.trans hT1881 (Tr.trans hT1885 (Tr.trans hT1907 (Tr.trans hT1924 (Tr.trans hT3450 (Tr.trans hT4679 hT4695))))))))))))))))))))))))))))))))))
           refine RD.callq (i := 33) (m' := 17179869183) (W := 532575944704) (takeC_ok kt1911 (by kernel_rfl)) rfl kp1912 (v := .tuple #[.agg ((cs_TShare y4696.1)).toArray, .int .i64 y4696.2]) (fst := []) (cap := []) (.yes rfl rfl) body20 rfl (evs_cons rfl (evs_cons rfl evs_nil)) (fun w9 hw9 => balance_Ideal_c n _ w9 (hS4694.hL0 hL hw9) y3 (Rep.keep0 (St.lend (α := TUnit) (L := L) hS4694 (.tl (.tl (.tl (.tl (.tl (.tl .hd)))))) hm4697 hL) hw9) (7 : Int) hy4696) rfl ?_
           refine RD.vP 34 34359738367 kt1911 rfl kp1912 (.yes rfl rfl) (fun _ => FV.extract rfl rfl) rfl ?_
           refine RD.vP 35 68719476735 kt1911 rfl kp1912 (.yes rfl rfl) (fun _ => FV.extract rfl rfl) rfl ?_
           obtain ⟨y4698, hy4698, h⟩ := bind_in h
           refine RD.callq (i := 36) (m' := 137438953471) (W := 412316860416) (takeC_ok kt1911 (by kernel_rfl)) rfl kp1912 (v := .bool y4698) (fst := []) (cap := [.pointer (some ⟨b4687, 0, none⟩), .pointer (some ⟨b4688, 0, none⟩)]) (.yes rfl rfl) body72 rfl (evs_cons rfl (evs_cons rfl evs_nil)) (fun w9 hw9 => wardmotelaw22_part_1_c n _ w9 (hS4694.hL0 hL hw9) y4696.1 y4696.2 (100 : Int) (fun j9 v9 h9 => hw9.cell0 ((hS4694.memA .hd) j9 v9 h9)) (7 : Int) (fun j9 v9 h9 => hw9.cell0 ((hS4694.memA (.tl .hd)) j9 v9 h9)) hy4698) rfl ?_
           refine RD.vw 37 274877906943 kt1911 rfl kp1912 (fun _ => FV.pick_t rfl rfl) rfl ?_
           refine RD.vw 38 549755813887 kt1911 rfl kp1912 (fun _ => FV.assign rfl) rfl ?_
           refine RD.done (doneD_ok kt1911 (by kernel_rfl)) ?_
           refine MX.ret rfl ?_
           refine RT.leave hb0 Tryz.func6 rfl (.cons (.tmp rfl) .nil) rfl ?_
           obtain rfl := Option.some.inj h
           exact ⟨hS4694.ag, fun w9 hw9 => rfl⟩
          refine RD.offs 137438953471 2 [(31, 259), (32, 260), (33, 261), (34, 262), (35, 263), (36, 264)] (F := [(258, false)]) (U := []) kt1911 kp1912 (.cons rfl .nil) .nil ?_
          dsimp only [offS, List.map]
          refine RD.vw 37 274877906943 kt1911 rfl kp1912 (fun _ => FV.pick_f rfl rfl) rfl ?_
          refine RD.vw 38 549755813887 kt1911 rfl kp1912 (fun _ => FV.assign rfl) rfl ?_
          refine RD.done (doneD_ok kt1911 (by kernel_rfl)) ?_
          refine MX.ret rfl ?_
          refine RT.leave hb0 Tryz.func6 rfl (.cons (.tmp rfl) .nil) rfl ?_
          obtain rfl := Option.some.inj h
          exact ⟨hS4678.ag, fun w9 hw9 => rfl⟩
         ·skip
          intro hJ4699
          refine RD.each [22, 24] (readyD_ok kt1911 (by kernel_rfl)) ⟨?_, ?_, trivial⟩
          ·skip
           refine RO.call (m' := 16777215) (fst := []) (cap := []) (stepC_ok kt1911 (by kernel_rfl)) rfl (.yes rfl rfl) body21 rfl (evs_cons rfl (evs_cons rfl evs_nil)) (fun w9 hw9 => Calls.gives (wardmotelaw22_part_c n _ w9 (hS3449.hL hL hw9) (0 : Int) (1 : Int)) fun (w8 : World) (u8 : Value) ⟨b0_, b1_, hu_, s_⟩ => (⟨b0_, b1_, hu_, s_.from hw9⟩ : ∃ b3758 b3759 : Nat, u8 = Value.func (.func 72) #[] #[.pointer (some ⟨b3758, 0, none⟩), .pointer (some ⟨b3759, 0, none⟩)] ∧ St wx3448 w8 [.cells b3758 [.int .i64 0] 3, .cells b3759 [.int .i64 1] 3])) rfl (fun w3760 vu3761 hag3762 ⟨b3758, b3759, hu3764, s3763⟩ => ?_)
           subst hu3764
           have hS3765 : St w w3760 [.cells b3758 [.int .i64 0] 3, .cells b3759 [.int .i64 1] 3, .row w.heap.size 3 (Rep.size Int) v3445 (([(0 : Int), (1 : Int)] : List Int).length) cs3446, .cells b3448 [.bool true] 4, .cells b20 [.int .i64 y3.fGroups, .int .i64 y3.fParties, .int .i64 y3.fLevels, v11] 44, .row w.heap.size 65 (Rep.size TUnit) v11 y3.fUnits.length cs12] := St.merge hS3449 s3763
           have hT3766 : Tr wx3448 [.row w.heap.size 3 (Rep.size Int) v3445 (([(0 : Int), (1 : Int)] : List Int).length) cs3446, .cells b3448 [.bool true] 4, .cells b20 [.int .i64 y3.fGroups, .int .i64 y3.fParties, .int .i64 y3.fLevels, v11] 44, .row w.heap.size 65 (Rep.size TUnit) v11 y3.fUnits.length cs12] w3760 [.cells b3758 [.int .i64 0] 3, .cells b3759 [.int .i64 1] 3, .row w.heap.size 3 (Rep.size Int) v3445 (([(0 : Int), (1 : Int)] : List Int).length) cs3446, .cells b3448 [.bool true] 4, .cells b20 [.int .i64 y3.fGroups, .int .i64 y3.fParties, .int .i64 y3.fLevels, v11] 44, .row w.heap.size 65 (Rep.size TUnit) v11 y3.fUnits.length cs12] := Tr.merge hS3449 s3763
           refine RD.nu 24 33554431 kt1911 rfl (.yes rfl rfl) rfl (Does.build (α := Int) (xs := ([(0 : Int), (0 : Int), (0 : Int), (0 : Int)] : List Int)) (vs := [.int .i64 0, .int .i64 0, .int .i64 0, .int .i64 0]) (ds' := [.int .i64 0, .int .i64 0, .int .i64 0, .int .i64 0]) rfl hS3765 el46 rfl (evs_cons rfl (evs_cons rfl (evs_cons rfl (evs_cons rfl evs_nil)))) (by kernel_rfl) rfl) (fun w4068 b4071 hS4069 hT4070 => ?_)
           have hc4072 := Cells.at_ (cs := [.int .i64 0, .int .i64 0, .int .i64 0, .int .i64 0]) (xs := (([(0 : Int), (0 : Int), (0 : Int), (0 : Int)] : List Int) : List Int)) hS4069 L (Cells.cons (cs := [.int .i64 0]) (ds := [.int .i64 0, .int .i64 0, .int .i64 0]) rfl (Cells.cons (cs := [.int .i64 0]) (ds := [.int .i64 0, .int .i64 0]) rfl (Cells.cons (cs := [.int .i64 0]) (ds := [.int .i64 0]) rfl (Cells.cons (cs := [.int .i64 0]) (ds := []) rfl (Cells.nil _ _)))))
           obtain ⟨hS4700, hT4701⟩ := St.arrB hS4069 (.one .hd (.one .hd (.one .hd (.one (.tl (.tl .hd)) (.one (.tl (.tl .hd)) .done)))))
           have hm4702 := Cells.mv hc4072 hT4701
           exact hJ4699 ((.slice (some ⟨b4071, 0, none⟩) 4 4), [.int .i64 0, .int .i64 0, .int .i64 0, .int .i64 0], b3758, b3759) _ _ ⟨rfl, rfl, rfl, rfl, rfl, trivial⟩ ⟨hS4700, (Tr.trans hT3766 (Tr.trans hT4070 hT4701)), hm4702⟩
          ·skip
           refine RO.new (m' := 29360127) (stepC_ok kt1911 (by kernel_rfl)) rfl (.yes rfl rfl) rfl (Does.build (α := Int) (xs := ([(0 : Int), (0 : Int), (0 : Int), (0 : Int)] : List Int)) (vs := [.int .i64 0, .int .i64 0, .int .i64 0, .int .i64 0]) (ds' := [.int .i64 0, .int .i64 0, .int .i64 0, .int .i64 0]) rfl hS3449 el46 rfl (evs_cons rfl (evs_cons rfl (evs_cons rfl (evs_cons rfl evs_nil)))) (by kernel_rfl) rfl) (fun w4068 b4071 hS4069 hT4070 => ?_)
           have hc4072 := Cells.at_ (cs := [.int .i64 0, .int .i64 0, .int .i64 0, .int .i64 0]) (xs := (([(0 : Int), (0 : Int), (0 : Int), (0 : Int)] : List Int) : List Int)) hS4069 L (Cells.cons (cs := [.int .i64 0]) (ds := [.int .i64 0, .int .i64 0, .int .i64 0]) rfl (Cells.cons (cs := [.int .i64 0]) (ds := [.int .i64 0, .int .i64 0]) rfl (Cells.cons (cs := [.int .i64 0]) (ds := [.int .i64 0]) rfl (Cells.cons (cs := [.int .i64 0]) (ds := []) rfl (Cells.nil _ _)))))
           refine RD.cl 22 33554431 kt1911 rfl (.yes rfl rfl) body21 rfl (evs_cons rfl (evs_cons rfl evs_nil)) (fun w9 hw9 => Calls.gives (wardmotelaw22_part_c n _ w9 (hS4069.hL hL hw9) (0 : Int) (1 : Int)) fun (w8 : World) (u8 : Value) ⟨b0_, b1_, hu_, s_⟩ => (⟨b0_, b1_, hu_, s_.from hw9⟩ : ∃ b3758 b3759 : Nat, u8 = Value.func (.func 72) #[] #[.pointer (some ⟨b3758, 0, none⟩), .pointer (some ⟨b3759, 0, none⟩)] ∧ St w4068 w8 [.cells b3758 [.int .i64 0] 3, .cells b3759 [.int .i64 1] 3])) rfl (fun w3760 vu3761 hag3762 ⟨b3758, b3759, hu3764, s3763⟩ => ?_)
           subst hu3764
           have hS3765 : St w w3760 [.cells b3758 [.int .i64 0] 3, .cells b3759 [.int .i64 1] 3, .row w.heap.size 3 (Rep.size Int) (.slice (some ⟨b4071, 0, none⟩) 4 4) (([(0 : Int), (0 : Int), (0 : Int), (0 : Int)] : List Int).length) [.int .i64 0, .int .i64 0, .int .i64 0, .int .i64 0], .row w.heap.size 3 (Rep.size Int) v3445 (([(0 : Int), (1 : Int)] : List Int).length) cs3446, .cells b3448 [.bool true] 4, .cells b20 [.int .i64 y3.fGroups, .int .i64 y3.fParties, .int .i64 y3.fLevels, v11] 44, .row w.heap.size 65 (Rep.size TUnit) v11 y3.fUnits.length cs12] := St.merge hS4069 s3763
           have hT3766 : Tr w4068 [.row w.heap.size 3 (Rep.size Int) (.slice (some ⟨b4071, 0, none⟩) 4 4) (([(0 : Int), (0 : Int), (0 : Int), (0 : Int)] : List Int).length) [.int .i64 0, .int .i64 0, .int .i64 0, .int .i64 0], .row w.heap.size 3 (Rep.size Int) v3445 (([(0 : Int), (1 : Int)] : List Int).length) cs3446, .cells b3448 [.bool true] 4, .cells b20 [.int .i64 y3.fGroups, .int .i64 y3.fParties, .int .i64 y3.fLevels, v11] 44, .row w.heap.size 65 (Rep.size TUnit) v11 y3.fUnits.length cs12] w3760 [.cells b3758 [.int .i64 0] 3, .cells b3759 [.int .i64 1] 3, .row w.heap.size 3 (Rep.size Int) (.slice (some ⟨b4071, 0, none⟩) 4 4) (([(0 : Int), (0 : Int), (0 : Int), (0 : Int)] : List Int).length) [.int .i64 0, .int .i64 0, .int .i64 0, .int .i64 0], .row w.heap.size 3 (Rep.size Int) v3445 (([(0 : Int), (1 : Int)] : List Int).length) cs3446, .cells b3448 [.bool true] 4, .cells b20 [.int .i64 y3.fGroups, .int .i64 y3.fParties, .int .i64 y3.fLevels, v11] 44, .row w.heap.size 65 (Rep.size TUnit) v11 y3.fUnits.length cs12] := Tr.merge hS4069 s3763
           obtain ⟨hS4703, hT4704⟩ := St.arrB hS3765 (.one (.tl (.tl .hd)) (.one .hd (.one .hd (.one (.tl (.tl .hd)) (.one (.tl (.tl .hd)) .done)))))
           have hm4705 := Cells.mv hc4072 (Tr.trans hT3766 hT4704)
           exact hJ4699 ((.slice (some ⟨b4071, 0, none⟩) 4 4), [.int .i64 0, .int .i64 0, .int .i64 0, .int .i64 0], b3758, b3759) _ _ ⟨rfl, rfl, rfl, rfl, rfl, trivial⟩ ⟨hS4703, (Tr.trans hT4070 (Tr.trans hT3766 hT4704)), hm4705⟩
        refine RD.offs 536870911 10 [(22, 250), (23, 251), (24, 252), (25, 253), (26, 254), (27, 255), (28, 256)] (F := [(249, false)]) (U := []) kt1911 kp1912 (.cons rfl .nil) .nil ?_
        dsimp only [offS, List.map]
        refine RD.vw 29 1073741823 kt1911 rfl kp1912 (fun _ => FV.pick_f rfl rfl) rfl ?_
        refine RD.vw 30 2147483647 kt1911 rfl kp1912 (fun _ => FV.move rfl) rfl ?_
        refine RD.offs 137438953471 2 [(31, 259), (32, 260), (33, 261), (34, 262), (35, 263), (36, 264)] (F := [(258, false)]) (U := []) kt1911 kp1912 (.cons rfl .nil) .nil ?_
        dsimp only [offS, List.map]
        refine RD.vw 37 274877906943 kt1911 rfl kp1912 (fun _ => FV.pick_f rfl rfl) rfl ?_
        refine RD.vw 38 549755813887 kt1911 rfl kp1912 (fun _ => FV.assign rfl) rfl ?_
        refine RD.done (doneD_ok kt1911 (by kernel_rfl)) ?_
        refine MX.ret rfl ?_
        refine RT.leave hb0 Tryz.func6 rfl (.cons (.tmp rfl) .nil) rfl ?_
        obtain rfl := Option.some.inj h
        exact ⟨hS3449.ag, fun w9 hw9 => rfl⟩
       ·skip
        intro hJ4706
        refine RD.each [12, 14] (readyD_ok kt1911 (by kernel_rfl)) ⟨?_, ?_, trivial⟩
        ·skip
         refine RO.call (m' := 16383) (fst := []) (cap := []) (stepC_ok kt1911 (by kernel_rfl)) rfl (.yes rfl rfl) body38 rfl (evs_cons rfl evs_nil) (fun w9 hw9 => Calls.gives (wardmotelaw22_truth_c n _ w9 (hS1923.hL hL hw9) true) fun (w8 : World) (u8 : Value) ⟨b0_, hu_, s_⟩ => (⟨b0_, hu_, s_.from hw9⟩ : ∃ b2230 : Nat, u8 = Value.func (.func 92) #[] #[.pointer (some ⟨b2230, 0, none⟩)] ∧ St w1918 w8 [.cells b2230 [.bool true] 4])) rfl (fun w2231 vu2232 hag2233 ⟨b2230, hu2235, s2234⟩ => ?_)
         subst hu2235
         have hS2236 : St w w2231 [.cells b2230 [.bool true] 4, .cells b1916 [.int .i64 0] 3, .cells b1917 [.int .i64 1] 3, .cells b176 [.int .i64 0, .int .i64 0, .int .i64 0, (.slice (some ⟨b158, 0, none⟩) 2 2)] 44, .cells b20 [.int .i64 y3.fGroups, .int .i64 y3.fParties, .int .i64 y3.fLevels, v11] 44, .row w.heap.size 65 (Rep.size TUnit) v11 y3.fUnits.length cs12] := St.merge hS1923 s2234
         have hT2237 : Tr w1918 [.cells b1916 [.int .i64 0] 3, .cells b1917 [.int .i64 1] 3, .cells b176 [.int .i64 0, .int .i64 0, .int .i64 0, (.slice (some ⟨b158, 0, none⟩) 2 2)] 44, .cells b20 [.int .i64 y3.fGroups, .int .i64 y3.fParties, .int .i64 y3.fLevels, v11] 44, .row w.heap.size 65 (Rep.size TUnit) v11 y3.fUnits.length cs12] w2231 [.cells b2230 [.bool true] 4, .cells b1916 [.int .i64 0] 3, .cells b1917 [.int .i64 1] 3, .cells b176 [.int .i64 0, .int .i64 0, .int .i64 0, (.slice (some ⟨b158, 0, none⟩) 2 2)] 44, .cells b20 [.int .i64 y3.fGroups, .int .i64 y3.fParties, .int .i64 y3.fLevels, v11] 44, .row w.heap.size 65 (Rep.size TUnit) v11 y3.fUnits.length cs12] := Tr.merge hS1923 s2234
         refine RD.callq (i := 15) (m' := 49151) (W := 549755748352) (takeC_ok kt1911 (by kernel_rfl)) rfl kp1912 (v := .agg ((cs_TShare y2538)).toArray) (fst := []) (cap := []) (.yes rfl rfl) body23 rfl (evs_cons rfl (evs_cons rfl evs_nil)) (fun w9 hw9 => wardmotelaw22_of_c n _ w9 (hS2236.hL0 hL hw9) (0 : Int) (1 : Int) hy2538) rfl ?_
         refine RD.nu 14 65535 kt1911 rfl (.yes rfl rfl) rfl (Does.build (α := Int) (xs := ([(0 : Int), (1 : Int)] : List Int)) (vs := [.int .i64 0, .int .i64 1]) (ds' := [.int .i64 0, .int .i64 1]) rfl hS2236 el46 rfl (evs_cons rfl (evs_cons rfl evs_nil)) (by kernel_rfl) rfl) (fun w2840 b2843 hS2841 hT2842 => ?_)
         have hc2844 := Cells.at_ (cs := [.int .i64 0, .int .i64 1]) (xs := (([(0 : Int), (1 : Int)] : List Int) : List Int)) hS2841 L (Cells.cons (cs := [.int .i64 0]) (ds := [.int .i64 1]) rfl (Cells.cons (cs := [.int .i64 1]) (ds := []) rfl (Cells.nil _ _)))
         obtain ⟨hS4707, hT4708⟩ := St.arrB hS2841 (.one .hd (.one .hd (.one (.tl (.tl (.tl .hd))) (.one (.tl (.tl (.tl .hd))) .done))))
         have hm4709 := Cells.mv hc2844 hT4708
         exact hJ4706 ((.slice (some ⟨b2843, 0, none⟩) 2 2), [.int .i64 0, .int .i64 1], b2230) _ _ ⟨rfl, rfl, rfl, rfl, rfl, rfl, trivial⟩ ⟨hS4707, (Tr.trans hT2237 (Tr.trans hT2842 hT4708)), hm4709⟩
        ·skip
         refine RO.new (m' := 28671) (stepC_ok kt1911 (by kernel_rfl)) rfl (.yes rfl rfl) rfl (Does.build (α := Int) (xs := ([(0 : Int), (1 : Int)] : List Int)) (vs := [.int .i64 0, .int .i64 1]) (ds' := [.int .i64 0, .int .i64 1]) rfl hS1923 el46 rfl (evs_cons rfl (evs_cons rfl evs_nil)) (by kernel_rfl) rfl) (fun w2840 b2843 hS2841 hT2842 => ?_)
         have hc2844 := Cells.at_ (cs := [.int .i64 0, .int .i64 1]) (xs := (([(0 : Int), (1 : Int)] : List Int) : List Int)) hS2841 L (Cells.cons (cs := [.int .i64 0]) (ds := [.int .i64 1]) rfl (Cells.cons (cs := [.int .i64 1]) (ds := []) rfl (Cells.nil _ _)))
         refine RD.cl 12 32767 kt1911 rfl (.yes rfl rfl) body38 rfl (evs_cons rfl evs_nil) (fun w9 hw9 => Calls.gives (wardmotelaw22_truth_c n _ w9 (hS2841.hL hL hw9) true) fun (w8 : World) (u8 : Value) ⟨b0_, hu_, s_⟩ => (⟨b0_, hu_, s_.from hw9⟩ : ∃ b2230 : Nat, u8 = Value.func (.func 92) #[] #[.pointer (some ⟨b2230, 0, none⟩)] ∧ St w2840 w8 [.cells b2230 [.bool true] 4])) rfl (fun w2231 vu2232 hag2233 ⟨b2230, hu2235, s2234⟩ => ?_)
         subst hu2235
         have hS2236 : St w w2231 [.cells b2230 [.bool true] 4, .row w.heap.size 3 (Rep.size Int) (.slice (some ⟨b2843, 0, none⟩) 2 2) (([(0 : Int), (1 : Int)] : List Int).length) [.int .i64 0, .int .i64 1], .cells b1916 [.int .i64 0] 3, .cells b1917 [.int .i64 1] 3, .cells b176 [.int .i64 0, .int .i64 0, .int .i64 0, (.slice (some ⟨b158, 0, none⟩) 2 2)] 44, .cells b20 [.int .i64 y3.fGroups, .int .i64 y3.fParties, .int .i64 y3.fLevels, v11] 44, .row w.heap.size 65 (Rep.size TUnit) v11 y3.fUnits.length cs12] := St.merge hS2841 s2234
         have hT2237 : Tr w2840 [.row w.heap.size 3 (Rep.size Int) (.slice (some ⟨b2843, 0, none⟩) 2 2) (([(0 : Int), (1 : Int)] : List Int).length) [.int .i64 0, .int .i64 1], .cells b1916 [.int .i64 0] 3, .cells b1917 [.int .i64 1] 3, .cells b176 [.int .i64 0, .int .i64 0, .int .i64 0, (.slice (some ⟨b158, 0, none⟩) 2 2)] 44, .cells b20 [.int .i64 y3.fGroups, .int .i64 y3.fParties, .int .i64 y3.fLevels, v11] 44, .row w.heap.size 65 (Rep.size TUnit) v11 y3.fUnits.length cs12] w2231 [.cells b2230 [.bool true] 4, .row w.heap.size 3 (Rep.size Int) (.slice (some ⟨b2843, 0, none⟩) 2 2) (([(0 : Int), (1 : Int)] : List Int).length) [.int .i64 0, .int .i64 1], .cells b1916 [.int .i64 0] 3, .cells b1917 [.int .i64 1] 3, .cells b176 [.int .i64 0, .int .i64 0, .int .i64 0, (.slice (some ⟨b158, 0, none⟩) 2 2)] 44, .cells b20 [.int .i64 y3.fGroups, .int .i64 y3.fParties, .int .i64 y3.fLevels, v11] 44, .row w.heap.size 65 (Rep.size TUnit) v11 y3.fUnits.length cs12] := Tr.merge hS2841 s2234
         refine RD.callq (i := 15) (m' := 65535) (W := 549755748352) (takeC_ok kt1911 (by kernel_rfl)) rfl kp1912 (v := .agg ((cs_TShare y2538)).toArray) (fst := []) (cap := []) (.yes rfl rfl) body23 rfl (evs_cons rfl (evs_cons rfl evs_nil)) (fun w9 hw9 => wardmotelaw22_of_c n _ w9 (hS2236.hL0 hL hw9) (0 : Int) (1 : Int) hy2538) rfl ?_
         obtain ⟨hS4710, hT4711⟩ := St.arrB hS2236 (.one (.tl .hd) (.one .hd (.one (.tl (.tl (.tl .hd))) (.one (.tl (.tl (.tl .hd))) .done))))
         have hm4712 := Cells.mv hc2844 (Tr.trans hT2237 hT4711)
         exact hJ4706 ((.slice (some ⟨b2843, 0, none⟩) 2 2), [.int .i64 0, .int .i64 1], b2230) _ _ ⟨rfl, rfl, rfl, rfl, rfl, rfl, trivial⟩ ⟨hS4710, (Tr.trans hT2842 (Tr.trans hT2237 hT4711)), hm4712⟩
      refine RD.offs 1048575 19 [(12, 240), (13, 241), (14, 242), (15, 243), (16, 244), (17, 245), (18, 246), (19, 247)] (F := [(239, false)]) (U := []) kt1911 kp1912 (.cons rfl .nil) .nil ?_
      dsimp only [offS, List.map]
      refine RD.vw 20 2097151 kt1911 rfl kp1912 (fun _ => FV.pick_f rfl rfl) rfl ?_
      refine RD.vw 21 4194303 kt1911 rfl kp1912 (fun _ => FV.move rfl) rfl ?_
      refine RD.offs 536870911 10 [(22, 250), (23, 251), (24, 252), (25, 253), (26, 254), (27, 255), (28, 256)] (F := [(249, false)]) (U := []) kt1911 kp1912 (.cons rfl .nil) .nil ?_
      dsimp only [offS, List.map]
      refine RD.vw 29 1073741823 kt1911 rfl kp1912 (fun _ => FV.pick_f rfl rfl) rfl ?_
      refine RD.vw 30 2147483647 kt1911 rfl kp1912 (fun _ => FV.move rfl) rfl ?_
      refine RD.offs 137438953471 2 [(31, 259), (32, 260), (33, 261), (34, 262), (35, 263), (36, 264)] (F := [(258, false)]) (U := []) kt1911 kp1912 (.cons rfl .nil) .nil ?_
      dsimp only [offS, List.map]
      refine RD.vw 37 274877906943 kt1911 rfl kp1912 (fun _ => FV.pick_f rfl rfl) rfl ?_
      refine RD.vw 38 549755813887 kt1911 rfl kp1912 (fun _ => FV.assign rfl) rfl ?_
      refine RD.done (doneD_ok kt1911 (by kernel_rfl)) ?_
      refine MX.ret rfl ?_
      refine RT.leave hb0 Tryz.func6 rfl (.cons (.tmp rfl) .nil) rfl ?_
      obtain rfl := Option.some.inj h
      exact ⟨hS1923.ag, fun w9 hw9 => rfl⟩
     refine RD.offs 1023 29 [(4, 232), (5, 233), (6, 234), (7, 235), (8, 236), (9, 237)] (F := [(231, false)]) (U := []) kt1911 kp1912 (.cons rfl .nil) .nil ?_
     dsimp only [offS, List.map]
     refine RD.vw 10 2047 kt1911 rfl kp1912 (fun _ => FV.pick_f rfl rfl) rfl ?_
     refine RD.vw 11 4095 kt1911 rfl kp1912 (fun _ => FV.move rfl) rfl ?_
     refine RD.offs 1048575 19 [(12, 240), (13, 241), (14, 242), (15, 243), (16, 244), (17, 245), (18, 246), (19, 247)] (F := [(239, false)]) (U := []) kt1911 kp1912 (.cons rfl .nil) .nil ?_
     dsimp only [offS, List.map]
     refine RD.vw 20 2097151 kt1911 rfl kp1912 (fun _ => FV.pick_f rfl rfl) rfl ?_
     refine RD.vw 21 4194303 kt1911 rfl kp1912 (fun _ => FV.move rfl) rfl ?_
     refine RD.offs 536870911 10 [(22, 250), (23, 251), (24, 252), (25, 253), (26, 254), (27, 255), (28, 256)] (F := [(249, false)]) (U := []) kt1911 kp1912 (.cons rfl .nil) .nil ?_
     dsimp only [offS, List.map]
     refine RD.vw 29 1073741823 kt1911 rfl kp1912 (fun _ => FV.pick_f rfl rfl) rfl ?_
     refine RD.vw 30 2147483647 kt1911 rfl kp1912 (fun _ => FV.move rfl) rfl ?_
     refine RD.offs 137438953471 2 [(31, 259), (32, 260), (33, 261), (34, 262), (35, 263), (36, 264)] (F := [(258, false)]) (U := []) kt1911 kp1912 (.cons rfl .nil) .nil ?_
     dsimp only [offS, List.map]
     refine RD.vw 37 274877906943 kt1911 rfl kp1912 (fun _ => FV.pick_f rfl rfl) rfl ?_
     refine RD.vw 38 549755813887 kt1911 rfl kp1912 (fun _ => FV.assign rfl) rfl ?_
     refine RD.done (doneD_ok kt1911 (by kernel_rfl)) ?_
     refine MX.ret rfl ?_
     refine RT.leave hb0 Tryz.func6 rfl (.cons (.tmp rfl) .nil) rfl ?_
     obtain rfl := Option.some.inj h
     exact ⟨hS1906.ag, fun w9 hw9 => rfl⟩
    ·skip
     intro J1909 hJ1910 h
     try dsimp only at h
     refine MX.region ?_
     refine RG.mv rfl rfl ?_
     refine RG.mv rfl rfl ?_
     refine RG.ifb (s := 166) rfl h (fun c4713 h => ?_) (fun c4713 h => ?_)
     ·skip
      refine RG.val' (.yes rfl rfl) (FV.move rfl) rfl ?_
      refine RG.val' (.yes rfl rfl) (FV.neq (i := y1798.2) (j := 0) rfl rfl) rfl ?_
      refine RG.vv (FV.pick_t rfl rfl) rfl ?_
      refine RG.mv rfl rfl ?_
      refine RG.ifn (s := 170) rfl h (fun c4714 h => ?_) (fun c4714 h => ?_)
      ·skip
       refine RG.off (.no rfl rfl) rfl ?_
       refine RG.off (.no rfl rfl) rfl ?_
       refine RG.vv (FV.pick_f rfl rfl) rfl ?_
       refine RG.mv rfl rfl ?_
       refine RG.off (.no rfl rfl) rfl ?_
       refine RG.off (.no rfl rfl) rfl ?_
       refine RG.off (.no rfl rfl) rfl ?_
       refine RG.off (.no rfl rfl) rfl ?_
       refine RG.vv (FV.pick_f rfl rfl) rfl ?_
       refine RG.mv rfl rfl ?_
       refine RG.off (.no rfl rfl) rfl ?_
       refine RG.off (.no rfl rfl) rfl ?_
       refine RG.vv (FV.pick_f rfl rfl) rfl ?_
       refine RG.mv rfl rfl ?_
       refine RG.off (.no rfl rfl) rfl ?_
       refine RG.off (.no rfl rfl) rfl ?_
       refine RG.vv (FV.pick_f rfl rfl) rfl ?_
       refine RG.mv rfl rfl ?_
       refine RG.off (.no rfl rfl) rfl ?_
       refine RG.off (.no rfl rfl) rfl ?_
       refine RG.vv (FV.pick_f rfl rfl) rfl ?_
       refine RG.mv rfl rfl ?_
       refine RG.off (.no rfl rfl) rfl ?_
       refine RG.off (.no rfl rfl) rfl ?_
       refine RG.vv (FV.pick_f rfl rfl) rfl ?_
       refine RG.mv rfl rfl ?_
       refine RG.off (.no rfl rfl) rfl ?_
       refine RG.off (.no rfl rfl) rfl ?_
       refine RG.vv (FV.pick_f rfl rfl) rfl ?_
       refine RG.mv rfl rfl ?_
       refine RG.off (.no rfl rfl) rfl ?_
       refine RG.off (.no rfl rfl) rfl ?_
       refine RG.vv (FV.pick_f rfl rfl) rfl ?_
       refine RG.mv rfl rfl ?_
       refine RG.off (.no rfl rfl) rfl ?_
       refine RG.off (.no rfl rfl) rfl ?_
       refine RG.vv (FV.pick_f rfl rfl) rfl ?_
       refine RG.mv rfl rfl ?_
       refine RG.off (.no rfl rfl) rfl ?_
       refine RG.off (.no rfl rfl) rfl ?_
       refine RG.vv (FV.pick_f rfl rfl) rfl ?_
       refine RG.mv rfl rfl ?_
       refine RG.off (.no rfl rfl) rfl ?_
       refine RG.off (.no rfl rfl) rfl ?_
       refine RG.vv (FV.pick_f rfl rfl) rfl ?_
       refine RG.mv rfl rfl ?_
       refine RG.off (.no rfl rfl) rfl ?_
       refine RG.off (.no rfl rfl) rfl ?_
       refine RG.vv (FV.pick_f rfl rfl) rfl ?_
       refine RG.mv rfl rfl ?_
       refine RG.off (.no rfl rfl) rfl ?_
       refine RG.off (.no rfl rfl) rfl ?_
       refine RG.vv (FV.pick_f rfl rfl) rfl ?_
       refine RG.mv rfl rfl ?_
       refine RG.off (.no rfl rfl) rfl ?_
       refine RG.off (.no rfl rfl) rfl ?_
       refine RG.vv (FV.pick_f rfl rfl) rfl ?_
       refine RG.sg rfl rfl ?_
       refine RG.nil ?_
       obtain ⟨hS4715, hT4716⟩ := St.arrB hS1884 (.one (.tl (.tl (.tl (.tl (.tl (.tl .hd)))))) (.one (.tl (.tl (.tl (.tl (.tl (.tl (.tl (.tl .hd)))))))) (.one (.tl (.tl (.tl (.tl (.tl (.tl (.tl (.tl .hd)))))))) .done)))
       exact hJ1910 false _ _ ⟨rfl, rfl, rfl, trivial⟩ ⟨hS4715, hT4716⟩ h
      refine RG.val' (.yes rfl rfl) (FV.move rfl) rfl ?_
      refine RG.val' (.yes rfl rfl) (FV.neq (i := y1798.2) (j := 2) rfl rfl) rfl ?_
      refine RG.vv (FV.pick_t rfl rfl) rfl ?_
      refine RG.mv rfl rfl ?_
      refine RG.ifn (s := 174) rfl h (fun c4717 h => ?_) (fun c4717 h => ?_)
      ·skip
       refine RG.off (.no rfl rfl) rfl ?_
       refine RG.off (.no rfl rfl) rfl ?_
       refine RG.off (.no rfl rfl) rfl ?_
       refine RG.off (.no rfl rfl) rfl ?_
       refine RG.vv (FV.pick_f rfl rfl) rfl ?_
       refine RG.mv rfl rfl ?_
       refine RG.off (.no rfl rfl) rfl ?_
       refine RG.off (.no rfl rfl) rfl ?_
       refine RG.vv (FV.pick_f rfl rfl) rfl ?_
       refine RG.mv rfl rfl ?_
       refine RG.off (.no rfl rfl) rfl ?_
       refine RG.off (.no rfl rfl) rfl ?_
       refine RG.vv (FV.pick_f rfl rfl) rfl ?_
       refine RG.mv rfl rfl ?_
       refine RG.off (.no rfl rfl) rfl ?_
       refine RG.off (.no rfl rfl) rfl ?_
       refine RG.vv (FV.pick_f rfl rfl) rfl ?_
       refine RG.mv rfl rfl ?_
       refine RG.off (.no rfl rfl) rfl ?_
       refine RG.off (.no rfl rfl) rfl ?_
       refine RG.vv (FV.pick_f rfl rfl) rfl ?_
       refine RG.mv rfl rfl ?_
       refine RG.off (.no rfl rfl) rfl ?_
       refine RG.off (.no rfl rfl) rfl ?_
       refine RG.vv (FV.pick_f rfl rfl) rfl ?_
       refine RG.mv rfl rfl ?_
       refine RG.off (.no rfl rfl) rfl ?_
       refine RG.off (.no rfl rfl) rfl ?_
       refine RG.vv (FV.pick_f rfl rfl) rfl ?_
       refine RG.mv rfl rfl ?_
       refine RG.off (.no rfl rfl) rfl ?_
       refine RG.off (.no rfl rfl) rfl ?_
       refine RG.vv (FV.pick_f rfl rfl) rfl ?_
       refine RG.mv rfl rfl ?_
       refine RG.off (.no rfl rfl) rfl ?_
       refine RG.off (.no rfl rfl) rfl ?_
       refine RG.vv (FV.pick_f rfl rfl) rfl ?_
       refine RG.mv rfl rfl ?_
       refine RG.off (.no rfl rfl) rfl ?_
       refine RG.off (.no rfl rfl) rfl ?_
       refine RG.vv (FV.pick_f rfl rfl) rfl ?_
       refine RG.mv rfl rfl ?_
       refine RG.off (.no rfl rfl) rfl ?_
       refine RG.off (.no rfl rfl) rfl ?_
       refine RG.vv (FV.pick_f rfl rfl) rfl ?_
       refine RG.mv rfl rfl ?_
       refine RG.off (.no rfl rfl) rfl ?_
       refine RG.off (.no rfl rfl) rfl ?_
       refine RG.vv (FV.pick_f rfl rfl) rfl ?_
       refine RG.mv rfl rfl ?_
       refine RG.off (.no rfl rfl) rfl ?_
       refine RG.off (.no rfl rfl) rfl ?_
       refine RG.vv (FV.pick_f rfl rfl) rfl ?_
       refine RG.sg rfl rfl ?_
       refine RG.nil ?_
       obtain ⟨hS4718, hT4719⟩ := St.arrB hS1884 (.one (.tl (.tl (.tl (.tl (.tl (.tl .hd)))))) (.one (.tl (.tl (.tl (.tl (.tl (.tl (.tl (.tl .hd)))))))) (.one (.tl (.tl (.tl (.tl (.tl (.tl (.tl (.tl .hd)))))))) .done)))
       exact hJ1910 false _ _ ⟨rfl, rfl, rfl, trivial⟩ ⟨hS4718, hT4719⟩ h
      refine RG.val' (.yes rfl rfl) (FV.loadN (by kernel_rfl) rfl (hS1884.memA (.tl (.tl (.tl (.tl (.tl (.tl (.tl .hd))))))))) rfl ?_
      obtain ⟨y4720, hy4720, h⟩ := bind_in h
      have hm4721 := Cells.mv hc134 (Tr.trans hT157 (Tr.trans hT175 (Tr.trans hT179 (Tr.trans hT1794 (Tr.trans hT1803 (Tr.trans hT1807 (Tr.trans hT1813 (Tr.trans hT1817 (Tr.trans hT1821 (Tr.trans hT1827 (Tr.trans hT1832 (Tr.trans hT1840 (Tr.trans hT1846 (Tr.trans hT1854 (Tr.trans hT1858 (Tr.trans hT1873 (Tr.trans hT1881 hT1885)))))))))))))))))
      refine RG.callq' (v := .int .i64 y4720) (fst := []) (cap := []) (.yes rfl rfl) body29 rfl (evs_cons rfl (evs_cons rfl (evs_cons rfl evs_nil))) (fun w9 hw9 => balance_Check_c n _ w9 (hS1884.hL0 hL hw9) (⟨y78.fGroups, y78.fParties, y78.fLevels, xs130⟩ : TRoll) (Rep.keep0 (St.lend (α := TUnit) (L := L) hS1884 (.tl (.tl (.tl (.tl (.tl (.tl (.tl (.tl .hd)))))))) hm4721 hL) hw9) ([] : List Int) (Rep.keep0 (Rep.nilSlice _ _) hw9) (0 : Int) hy4720) rfl ?_
      refine RG.val' (.yes rfl rfl) (FV.move rfl) rfl ?_
      refine RG.val' (.yes rfl rfl) (FV.eql (i := y4720) (j := y1798.2) rfl rfl) rfl ?_
      refine RG.vv (FV.pick_t rfl rfl) rfl ?_
      refine RG.mv rfl rfl ?_
      refine RG.ifd (s := 180) rfl h (fun c4722 h => ?_) (fun c4722 h => ?_)
      ·skip
       refine RG.val' (.yes rfl rfl) (FV.move rfl) rfl ?_
       refine RG.val' (.yes rfl rfl) (FV.eql (i := y1808.2) (j := 2) rfl rfl) rfl ?_
       refine RG.vv (FV.pick_t rfl rfl) rfl ?_
       refine RG.mv rfl rfl ?_
       refine RG.ifd (s := 184) rfl h (fun c4723 h => ?_) (fun c4723 h => ?_)
       ·skip
        refine RG.val' (.yes rfl rfl) (FV.move rfl) rfl ?_
        refine RG.val' (.yes rfl rfl) (FV.eql (i := y1824.2) (j := 7) rfl rfl) rfl ?_
        refine RG.vv (FV.pick_t rfl rfl) rfl ?_
        refine RG.mv rfl rfl ?_
        refine RG.ifd (s := 188) rfl h (fun c4724 h => ?_) (fun c4724 h => ?_)
        ·skip
         refine RG.val' (.yes rfl rfl) (FV.move rfl) rfl ?_
         refine RG.val' (.yes rfl rfl) (FV.eql (i := y1849.2) (j := 220) rfl rfl) rfl ?_
         refine RG.vv (FV.pick_t rfl rfl) rfl ?_
         refine RG.mv rfl rfl ?_
         refine RG.ifd (s := 192) rfl h (fun c4725 h => ?_) (fun c4725 h => ?_)
         ·skip
          refine RG.val' (.yes rfl rfl) (FV.move rfl) rfl ?_
          refine RG.val' (.yes rfl rfl) (FV.eql (i := y1859.2.2) (j := 2) rfl rfl) rfl ?_
          refine RG.vv (FV.pick_t rfl rfl) rfl ?_
          refine RG.mv rfl rfl ?_
          refine RG.ifd (s := 196) rfl h (fun c4726 h => ?_) (fun c4726 h => ?_)
          ·skip
           refine RG.val' (.yes rfl rfl) (FV.move rfl) rfl ?_
           refine RG.val' (.yes rfl rfl) (FV.neq (i := y1861.2.2) (j := 0) rfl rfl) rfl ?_
           refine RG.vv (FV.pick_t rfl rfl) rfl ?_
           refine RG.mv rfl rfl ?_
           refine RG.ifn (s := 200) rfl h (fun c4727 h => ?_) (fun c4727 h => ?_)
           ·skip
            refine RG.off (.no rfl rfl) rfl ?_
            refine RG.off (.no rfl rfl) rfl ?_
            refine RG.vv (FV.pick_f rfl rfl) rfl ?_
            refine RG.mv rfl rfl ?_
            refine RG.off (.no rfl rfl) rfl ?_
            refine RG.off (.no rfl rfl) rfl ?_
            refine RG.vv (FV.pick_f rfl rfl) rfl ?_
            refine RG.mv rfl rfl ?_
            refine RG.off (.no rfl rfl) rfl ?_
            refine RG.off (.no rfl rfl) rfl ?_
            refine RG.vv (FV.pick_f rfl rfl) rfl ?_
            refine RG.mv rfl rfl ?_
            refine RG.off (.no rfl rfl) rfl ?_
            refine RG.off (.no rfl rfl) rfl ?_
            refine RG.vv (FV.pick_f rfl rfl) rfl ?_
            refine RG.mv rfl rfl ?_
            refine RG.off (.no rfl rfl) rfl ?_
            refine RG.off (.no rfl rfl) rfl ?_
            refine RG.vv (FV.pick_f rfl rfl) rfl ?_
            refine RG.mv rfl rfl ?_
            refine RG.off (.no rfl rfl) rfl ?_
            refine RG.off (.no rfl rfl) rfl ?_
            refine RG.vv (FV.pick_f rfl rfl) rfl ?_
            refine RG.mv rfl rfl ?_
            refine RG.off (.no rfl rfl) rfl ?_
            refine RG.off (.no rfl rfl) rfl ?_
            refine RG.vv (FV.pick_f rfl rfl) rfl ?_
            refine RG.sg rfl rfl ?_
            refine RG.nil ?_
            obtain ⟨hS4728, hT4729⟩ := St.arrB hS1884 (.one (.tl (.tl (.tl (.tl (.tl (.tl .hd)))))) (.one (.tl (.tl (.tl (.tl (.tl (.tl (.tl (.tl .hd)))))))) (.one (.tl (.tl (.tl (.tl (.tl (.tl (.tl (.tl .hd)))))))) .done)))
            exact hJ1910 false _ _ ⟨rfl, rfl, rfl, trivial⟩ ⟨hS4728, hT4729⟩ h
           refine RG.val' (.yes rfl rfl) (FV.move rfl) rfl ?_
           refine RG.val' (.yes rfl rfl) (FV.neq (i := y1861.2.2) (j := 2) rfl rfl) rfl ?_
           refine RG.vv (FV.pick_t rfl rfl) rfl ?_
           refine RG.mv rfl rfl ?_
           refine RG.ifn (s := 204) rfl h (fun c4730 h => ?_) (fun c4730 h => ?_)
           ·skip
            refine RG.off (.no rfl rfl) rfl ?_
            refine RG.off (.no rfl rfl) rfl ?_
            refine RG.vv (FV.pick_f rfl rfl) rfl ?_
            refine RG.mv rfl rfl ?_
            refine RG.off (.no rfl rfl) rfl ?_
            refine RG.off (.no rfl rfl) rfl ?_
            refine RG.vv (FV.pick_f rfl rfl) rfl ?_
            refine RG.mv rfl rfl ?_
            refine RG.off (.no rfl rfl) rfl ?_
            refine RG.off (.no rfl rfl) rfl ?_
            refine RG.vv (FV.pick_f rfl rfl) rfl ?_
            refine RG.mv rfl rfl ?_
            refine RG.off (.no rfl rfl) rfl ?_
            refine RG.off (.no rfl rfl) rfl ?_
            refine RG.vv (FV.pick_f rfl rfl) rfl ?_
            refine RG.mv rfl rfl ?_
            refine RG.off (.no rfl rfl) rfl ?_
            refine RG.off (.no rfl rfl) rfl ?_
            refine RG.vv (FV.pick_f rfl rfl) rfl ?_
            refine RG.mv rfl rfl ?_
            refine RG.off (.no rfl rfl) rfl ?_
            refine RG.off (.no rfl rfl) rfl ?_
            refine RG.vv (FV.pick_f rfl rfl) rfl ?_
            refine RG.sg rfl rfl ?_
            refine RG.nil ?_
            obtain ⟨hS4731, hT4732⟩ := St.arrB hS1884 (.one (.tl (.tl (.tl (.tl (.tl (.tl .hd)))))) (.one (.tl (.tl (.tl (.tl (.tl (.tl (.tl (.tl .hd)))))))) (.one (.tl (.tl (.tl (.tl (.tl (.tl (.tl (.tl .hd)))))))) .done)))
            exact hJ1910 false _ _ ⟨rfl, rfl, rfl, trivial⟩ ⟨hS4731, hT4732⟩ h
           refine RG.val' (.yes rfl rfl) (FV.move rfl) rfl ?_
           refine RG.val' (.yes rfl rfl) (FV.eql (i := y1865.2.2) (j := 2) rfl rfl) rfl ?_
           refine RG.vv (FV.pick_t rfl rfl) rfl ?_
           refine RG.mv rfl rfl ?_
           refine RG.ifd (s := 208) rfl h (fun c4733 h => ?_) (fun c4733 h => ?_)
           ·skip
            refine RG.val' (.yes rfl rfl) (FV.move rfl) rfl ?_
            refine RG.val' (.yes rfl rfl) (FV.eql (i := y1869.1) (j := (-33)) rfl rfl) rfl ?_
            refine RG.vv (FV.pick_t rfl rfl) rfl ?_
            refine RG.mv rfl rfl ?_
            refine RG.ifd (s := 212) rfl h (fun c4734 h => ?_) (fun c4734 h => ?_)
            ·skip
             refine RG.val' (.yes rfl rfl) (FV.move rfl) rfl ?_
             refine RG.val' (.yes rfl rfl) (FV.eql (i := y1869.2.1) (j := 100) rfl rfl) rfl ?_
             refine RG.vv (FV.pick_t rfl rfl) rfl ?_
             refine RG.mv rfl rfl ?_
             refine RG.ifd (s := 216) rfl h (fun c4735 h => ?_) (fun c4735 h => ?_)
             ·skip
              refine RG.val' (.yes rfl rfl) (FV.move rfl) rfl ?_
              refine RG.val' (.yes rfl rfl) (FV.eql (i := y1869.2.2) (j := 0) rfl rfl) rfl ?_
              refine RG.vv (FV.pick_t rfl rfl) rfl ?_
              refine RG.mv rfl rfl ?_
              refine RG.ifd (s := 220) rfl h (fun c4736 h => ?_) (fun c4736 h => ?_)
              ·skip
               refine RG.val' (.yes rfl rfl) (FV.move rfl) rfl ?_
               refine RG.val' (.yes rfl rfl) (FV.eql (i := y1876.2) (j := 220) rfl rfl) rfl ?_
               refine RG.vv (FV.pick_t rfl rfl) rfl ?_
               refine RG.mv rfl rfl ?_
               refine RG.ifd (s := 224) rfl h (fun c4737 h => ?_) (fun c4737 h => ?_)
               ·skip
                refine RG.val' (.yes rfl rfl) (FV.move rfl) rfl ?_
                refine RG.val' (.yes rfl rfl) (FV.eql (i := y1886.2.2) (j := 6) rfl rfl) rfl ?_
                refine RG.vv (FV.pick_t rfl rfl) rfl ?_
                refine RG.sg rfl rfl ?_
                refine RG.nil ?_
                obtain ⟨hS4738, hT4739⟩ := St.arrB hS1884 (.one (.tl (.tl (.tl (.tl (.tl (.tl .hd)))))) (.one (.tl (.tl (.tl (.tl (.tl (.tl (.tl (.tl .hd)))))))) (.one (.tl (.tl (.tl (.tl (.tl (.tl (.tl (.tl .hd)))))))) .done)))
                exact hJ1910 (decide (y1886.2.2 = 6)) _ _ ⟨rfl, rfl, rfl, trivial⟩ ⟨hS4738, hT4739⟩ h
               refine RG.off (.no rfl rfl) rfl ?_
               refine RG.off (.no rfl rfl) rfl ?_
               refine RG.vv (FV.pick_f rfl rfl) rfl ?_
               refine RG.sg rfl rfl ?_
               refine RG.nil ?_
               obtain ⟨hS4740, hT4741⟩ := St.arrB hS1884 (.one (.tl (.tl (.tl (.tl (.tl (.tl .hd)))))) (.one (.tl (.tl (.tl (.tl (.tl (.tl (.tl (.tl .hd)))))))) (.one (.tl (.tl (.tl (.tl (.tl (.tl (.tl (.tl .hd)))))))) .done)))
               exact hJ1910 false _ _ ⟨rfl, rfl, rfl, trivial⟩ ⟨hS4740, hT4741⟩ h
              refine RG.off (.no rfl rfl) rfl ?_
              refine RG.off (.no rfl rfl) rfl ?_
              refine RG.vv (FV.pick_f rfl rfl) rfl ?_
              refine RG.mv rfl rfl ?_
              refine RG.off (.no rfl rfl) rfl ?_
              refine RG.off (.no rfl rfl) rfl ?_
              refine RG.vv (FV.pick_f rfl rfl) rfl ?_
              refine RG.sg rfl rfl ?_
              refine RG.nil ?_
              obtain ⟨hS4742, hT4743⟩ := St.arrB hS1884 (.one (.tl (.tl (.tl (.tl (.tl (.tl .hd)))))) (.one (.tl (.tl (.tl (.tl (.tl (.tl (.tl (.tl .hd)))))))) (.one (.tl (.tl (.tl (.tl (.tl (.tl (.tl (.tl .hd)))))))) .done)))
              exact hJ1910 false _ _ ⟨rfl, rfl, rfl, trivial⟩ ⟨hS4742, hT4743⟩ h
             refine RG.off (.no rfl rfl) rfl ?_
             refine RG.off (.no rfl rfl) rfl ?_
             refine RG.vv (FV.pick_f rfl rfl) rfl ?_
             refine RG.mv rfl rfl ?_
             refine RG.off (.no rfl rfl) rfl ?_
             refine RG.off (.no rfl rfl) rfl ?_
             refine RG.vv (FV.pick_f rfl rfl) rfl ?_
             refine RG.mv rfl rfl ?_
             refine RG.off (.no rfl rfl) rfl ?_
             refine RG.off (.no rfl rfl) rfl ?_
             refine RG.vv (FV.pick_f rfl rfl) rfl ?_
             refine RG.sg rfl rfl ?_
             refine RG.nil ?_
             obtain ⟨hS4744, hT4745⟩ := St.arrB hS1884 (.one (.tl (.tl (.tl (.tl (.tl (.tl .hd)))))) (.one (.tl (.tl (.tl (.tl (.tl (.tl (.tl (.tl .hd)))))))) (.one (.tl (.tl (.tl (.tl (.tl (.tl (.tl (.tl .hd)))))))) .done)))
             exact hJ1910 false _ _ ⟨rfl, rfl, rfl, trivial⟩ ⟨hS4744, hT4745⟩ h
            refine RG.off (.no rfl rfl) rfl ?_
            refine RG.off (.no rfl rfl) rfl ?_
            refine RG.vv (FV.pick_f rfl rfl) rfl ?_
            refine RG.mv rfl rfl ?_
            refine RG.off (.no rfl rfl) rfl ?_
            refine RG.off (.no rfl rfl) rfl ?_
            refine RG.vv (FV.pick_f rfl rfl) rfl ?_
            refine RG.mv rfl rfl ?_
            refine RG.off (.no rfl rfl) rfl ?_
            refine RG.off (.no rfl rfl) rfl ?_
            refine RG.vv (FV.pick_f rfl rfl) rfl ?_
            refine RG.mv rfl rfl ?_
            refine RG.off (.no rfl rfl) rfl ?_
            refine RG.off (.no rfl rfl) rfl ?_
            refine RG.vv (FV.pick_f rfl rfl) rfl ?_
            refine RG.sg rfl rfl ?_
            refine RG.nil ?_
            obtain ⟨hS4746, hT4747⟩ := St.arrB hS1884 (.one (.tl (.tl (.tl (.tl (.tl (.tl .hd)))))) (.one (.tl (.tl (.tl (.tl (.tl (.tl (.tl (.tl .hd)))))))) (.one (.tl (.tl (.tl (.tl (.tl (.tl (.tl (.tl .hd)))))))) .done)))
            exact hJ1910 false _ _ ⟨rfl, rfl, rfl, trivial⟩ ⟨hS4746, hT4747⟩ h
           refine RG.off (.no rfl rfl) rfl ?_
           refine RG.off (.no rfl rfl) rfl ?_
           refine RG.vv (FV.pick_f rfl rfl) rfl ?_
           refine RG.mv rfl rfl ?_
           refine RG.off (.no rfl rfl) rfl ?_
           refine RG.off (.no rfl rfl) rfl ?_
           refine RG.vv (FV.pick_f rfl rfl) rfl ?_
           refine RG.mv rfl rfl ?_
           refine RG.off (.no rfl rfl) rfl ?_
           refine RG.off (.no rfl rfl) rfl ?_
           refine RG.vv (FV.pick_f rfl rfl) rfl ?_
           refine RG.mv rfl rfl ?_
           refine RG.off (.no rfl rfl) rfl ?_
           refine RG.off (.no rfl rfl) rfl ?_
           refine RG.vv (FV.pick_f rfl rfl) rfl ?_
           refine RG.mv rfl rfl ?_
           refine RG.off (.no rfl rfl) rfl ?_
           refine RG.off (.no rfl rfl) rfl ?_
           refine RG.vv (FV.pick_f rfl rfl) rfl ?_
           refine RG.sg rfl rfl ?_
           refine RG.nil ?_
           obtain ⟨hS4748, hT4749⟩ := St.arrB hS1884 (.one (.tl (.tl (.tl (.tl (.tl (.tl .hd)))))) (.one (.tl (.tl (.tl (.tl (.tl (.tl (.tl (.tl .hd)))))))) (.one (.tl (.tl (.tl (.tl (.tl (.tl (.tl (.tl .hd)))))))) .done)))
           exact hJ1910 false _ _ ⟨rfl, rfl, rfl, trivial⟩ ⟨hS4748, hT4749⟩ h
          refine RG.off (.no rfl rfl) rfl ?_
          refine RG.off (.no rfl rfl) rfl ?_
          refine RG.vv (FV.pick_f rfl rfl) rfl ?_
          refine RG.mv rfl rfl ?_
          refine RG.off (.no rfl rfl) rfl ?_
          refine RG.off (.no rfl rfl) rfl ?_
          refine RG.vv (FV.pick_f rfl rfl) rfl ?_
          refine RG.mv rfl rfl ?_
          refine RG.off (.no rfl rfl) rfl ?_
          refine RG.off (.no rfl rfl) rfl ?_
          refine RG.vv (FV.pick_f rfl rfl) rfl ?_
          refine RG.mv rfl rfl ?_
          refine RG.off (.no rfl rfl) rfl ?_
          refine RG.off (.no rfl rfl) rfl ?_
          refine RG.vv (FV.pick_f rfl rfl) rfl ?_
          refine RG.mv rfl rfl ?_
          refine RG.off (.no rfl rfl) rfl ?_
          refine RG.off (.no rfl rfl) rfl ?_
          refine RG.vv (FV.pick_f rfl rfl) rfl ?_
          refine RG.mv rfl rfl ?_
          refine RG.off (.no rfl rfl) rfl ?_
          refine RG.off (.no rfl rfl) rfl ?_
          refine RG.vv (FV.pick_f rfl rfl) rfl ?_
          refine RG.mv rfl rfl ?_
          refine RG.off (.no rfl rfl) rfl ?_
          refine RG.off (.no rfl rfl) rfl ?_
          refine RG.vv (FV.pick_f rfl rfl) rfl ?_
          refine RG.mv rfl rfl ?_
          refine RG.off (.no rfl rfl) rfl ?_
          refine RG.off (.no rfl rfl) rfl ?_
          refine RG.vv (FV.pick_f rfl rfl) rfl ?_
          refine RG.sg rfl rfl ?_
          refine RG.nil ?_
          obtain ⟨hS4750, hT4751⟩ := St.arrB hS1884 (.one (.tl (.tl (.tl (.tl (.tl (.tl .hd)))))) (.one (.tl (.tl (.tl (.tl (.tl (.tl (.tl (.tl .hd)))))))) (.one (.tl (.tl (.tl (.tl (.tl (.tl (.tl (.tl .hd)))))))) .done)))
          exact hJ1910 false _ _ ⟨rfl, rfl, rfl, trivial⟩ ⟨hS4750, hT4751⟩ h
         refine RG.off (.no rfl rfl) rfl ?_
         refine RG.off (.no rfl rfl) rfl ?_
         refine RG.vv (FV.pick_f rfl rfl) rfl ?_
         refine RG.mv rfl rfl ?_
         refine RG.off (.no rfl rfl) rfl ?_
         refine RG.off (.no rfl rfl) rfl ?_
         refine RG.vv (FV.pick_f rfl rfl) rfl ?_
         refine RG.mv rfl rfl ?_
         refine RG.off (.no rfl rfl) rfl ?_
         refine RG.off (.no rfl rfl) rfl ?_
         refine RG.vv (FV.pick_f rfl rfl) rfl ?_
         refine RG.mv rfl rfl ?_
         refine RG.off (.no rfl rfl) rfl ?_
         refine RG.off (.no rfl rfl) rfl ?_
         refine RG.vv (FV.pick_f rfl rfl) rfl ?_
         refine RG.mv rfl rfl ?_
         refine RG.off (.no rfl rfl) rfl ?_
         refine RG.off (.no rfl rfl) rfl ?_
         refine RG.vv (FV.pick_f rfl rfl) rfl ?_
         refine RG.mv rfl rfl ?_
         refine RG.off (.no rfl rfl) rfl ?_
         refine RG.off (.no rfl rfl) rfl ?_
         refine RG.vv (FV.pick_f rfl rfl) rfl ?_
         refine RG.mv rfl rfl ?_
         refine RG.off (.no rfl rfl) rfl ?_
         refine RG.off (.no rfl rfl) rfl ?_
         refine RG.vv (FV.pick_f rfl rfl) rfl ?_
         refine RG.mv rfl rfl ?_
         refine RG.off (.no rfl rfl) rfl ?_
         refine RG.off (.no rfl rfl) rfl ?_
         refine RG.vv (FV.pick_f rfl rfl) rfl ?_
         refine RG.mv rfl rfl ?_
         refine RG.off (.no rfl rfl) rfl ?_
         refine RG.off (.no rfl rfl) rfl ?_
         refine RG.vv (FV.pick_f rfl rfl) rfl ?_
         refine RG.sg rfl rfl ?_
         refine RG.nil ?_
         obtain ⟨hS4752, hT4753⟩ := St.arrB hS1884 (.one (.tl (.tl (.tl (.tl (.tl (.tl .hd)))))) (.one (.tl (.tl (.tl (.tl (.tl (.tl (.tl (.tl .hd)))))))) (.one (.tl (.tl (.tl (.tl (.tl (.tl (.tl (.tl .hd)))))))) .done)))
         exact hJ1910 false _ _ ⟨rfl, rfl, rfl, trivial⟩ ⟨hS4752, hT4753⟩ h
        refine RG.off (.no rfl rfl) rfl ?_
        refine RG.off (.no rfl rfl) rfl ?_
        refine RG.vv (FV.pick_f rfl rfl) rfl ?_
        refine RG.mv rfl rfl ?_
        refine RG.off (.no rfl rfl) rfl ?_
        refine RG.off (.no rfl rfl) rfl ?_
        refine RG.vv (FV.pick_f rfl rfl) rfl ?_
        refine RG.mv rfl rfl ?_
        refine RG.off (.no rfl rfl) rfl ?_
        refine RG.off (.no rfl rfl) rfl ?_
        refine RG.vv (FV.pick_f rfl rfl) rfl ?_
        refine RG.mv rfl rfl ?_
        refine RG.off (.no rfl rfl) rfl ?_
        refine RG.off (.no rfl rfl) rfl ?_
        refine RG.vv (FV.pick_f rfl rfl) rfl ?_
        refine RG.mv rfl rfl ?_
        refine RG.off (.no rfl rfl) rfl ?_
        refine RG.off (.no rfl rfl) rfl ?_
        refine RG.vv (FV.pick_f rfl rfl) rfl ?_
        refine RG.mv rfl rfl ?_
        refine RG.off (.no rfl rfl) rfl ?_
        refine RG.off (.no rfl rfl) rfl ?_
        refine RG.vv (FV.pick_f rfl rfl) rfl ?_
        refine RG.mv rfl rfl ?_
        refine RG.off (.no rfl rfl) rfl ?_
        refine RG.off (.no rfl rfl) rfl ?_
        refine RG.vv (FV.pick_f rfl rfl) rfl ?_
        refine RG.mv rfl rfl ?_
        refine RG.off (.no rfl rfl) rfl ?_
        refine RG.off (.no rfl rfl) rfl ?_
        refine RG.vv (FV.pick_f rfl rfl) rfl ?_
        refine RG.mv rfl rfl ?_
        refine RG.off (.no rfl rfl) rfl ?_
        refine RG.off (.no rfl rfl) rfl ?_
        refine RG.vv (FV.pick_f rfl rfl) rfl ?_
        refine RG.mv rfl rfl ?_
        refine RG.off (.no rfl rfl) rfl ?_
        refine RG.off (.no rfl rfl) rfl ?_
        refine RG.vv (FV.pick_f rfl rfl) rfl ?_
        refine RG.sg rfl rfl ?_
        refine RG.nil ?_
        obtain ⟨hS4754, hT4755⟩ := St.arrB hS1884 (.one (.tl (.tl (.tl (.tl (.tl (.tl .hd)))))) (.one (.tl (.tl (.tl (.tl (.tl (.tl (.tl (.tl .hd)))))))) (.one (.tl (.tl (.tl (.tl (.tl (.tl (.tl (.tl .hd)))))))) .done)))
        exact hJ1910 false _ _ ⟨rfl, rfl, rfl, trivial⟩ ⟨hS4754, hT4755⟩ h
       refine RG.off (.no rfl rfl) rfl ?_
       refine RG.off (.no rfl rfl) rfl ?_
       refine RG.vv (FV.pick_f rfl rfl) rfl ?_
       refine RG.mv rfl rfl ?_
       refine RG.off (.no rfl rfl) rfl ?_
       refine RG.off (.no rfl rfl) rfl ?_
       refine RG.vv (FV.pick_f rfl rfl) rfl ?_
       refine RG.mv rfl rfl ?_
       refine RG.off (.no rfl rfl) rfl ?_
       refine RG.off (.no rfl rfl) rfl ?_
       refine RG.vv (FV.pick_f rfl rfl) rfl ?_
       refine RG.mv rfl rfl ?_
       refine RG.off (.no rfl rfl) rfl ?_
       refine RG.off (.no rfl rfl) rfl ?_
       refine RG.vv (FV.pick_f rfl rfl) rfl ?_
       refine RG.mv rfl rfl ?_
       refine RG.off (.no rfl rfl) rfl ?_
       refine RG.off (.no rfl rfl) rfl ?_
       refine RG.vv (FV.pick_f rfl rfl) rfl ?_
       refine RG.mv rfl rfl ?_
       refine RG.off (.no rfl rfl) rfl ?_
       refine RG.off (.no rfl rfl) rfl ?_
       refine RG.vv (FV.pick_f rfl rfl) rfl ?_
       refine RG.mv rfl rfl ?_
       refine RG.off (.no rfl rfl) rfl ?_
       refine RG.off (.no rfl rfl) rfl ?_
       refine RG.vv (FV.pick_f rfl rfl) rfl ?_
       refine RG.mv rfl rfl ?_
       refine RG.off (.no rfl rfl) rfl ?_
       refine RG.off (.no rfl rfl) rfl ?_
       refine RG.vv (FV.pick_f rfl rfl) rfl ?_
       refine RG.mv rfl rfl ?_
       refine RG.off (.no rfl rfl) rfl ?_
       refine RG.off (.no rfl rfl) rfl ?_
       refine RG.vv (FV.pick_f rfl rfl) rfl ?_
       refine RG.mv rfl rfl ?_
       refine RG.off (.no rfl rfl) rfl ?_
       refine RG.off (.no rfl rfl) rfl ?_
       refine RG.vv (FV.pick_f rfl rfl) rfl ?_
       refine RG.mv rfl rfl ?_
       refine RG.off (.no rfl rfl) rfl ?_
       refine RG.off (.no rfl rfl) rfl ?_
       refine RG.vv (FV.pick_f rfl rfl) rfl ?_
       refine RG.sg rfl rfl ?_
       refine RG.nil ?_
       obtain ⟨hS4756, hT4757⟩ := St.arrB hS1884 (.one (.tl (.tl (.tl (.tl (.tl (.tl .hd)))))) (.one (.tl (.tl (.tl (.tl (.tl (.tl (.tl (.tl .hd)))))))) (.one (.tl (.tl (.tl (.tl (.tl (.tl (.tl (.tl .hd)))))))) .done)))
       exact hJ1910 false _ _ ⟨rfl, rfl, rfl, trivial⟩ ⟨hS4756, hT4757⟩ h
      refine RG.off (.no rfl rfl) rfl ?_
      refine RG.off (.no rfl rfl) rfl ?_
      refine RG.vv (FV.pick_f rfl rfl) rfl ?_
      refine RG.mv rfl rfl ?_
      refine RG.off (.no rfl rfl) rfl ?_
      refine RG.off (.no rfl rfl) rfl ?_
      refine RG.vv (FV.pick_f rfl rfl) rfl ?_
      refine RG.mv rfl rfl ?_
      refine RG.off (.no rfl rfl) rfl ?_
      refine RG.off (.no rfl rfl) rfl ?_
      refine RG.vv (FV.pick_f rfl rfl) rfl ?_
      refine RG.mv rfl rfl ?_
      refine RG.off (.no rfl rfl) rfl ?_
      refine RG.off (.no rfl rfl) rfl ?_
      refine RG.vv (FV.pick_f rfl rfl) rfl ?_
      refine RG.mv rfl rfl ?_
      refine RG.off (.no rfl rfl) rfl ?_
      refine RG.off (.no rfl rfl) rfl ?_
      refine RG.vv (FV.pick_f rfl rfl) rfl ?_
      refine RG.mv rfl rfl ?_
      refine RG.off (.no rfl rfl) rfl ?_
      refine RG.off (.no rfl rfl) rfl ?_
      refine RG.vv (FV.pick_f rfl rfl) rfl ?_
      refine RG.mv rfl rfl ?_
      refine RG.off (.no rfl rfl) rfl ?_
      refine RG.off (.no rfl rfl) rfl ?_
      refine RG.vv (FV.pick_f rfl rfl) rfl ?_
      refine RG.mv rfl rfl ?_
      refine RG.off (.no rfl rfl) rfl ?_
      refine RG.off (.no rfl rfl) rfl ?_
      refine RG.vv (FV.pick_f rfl rfl) rfl ?_
      refine RG.mv rfl rfl ?_
      refine RG.off (.no rfl rfl) rfl ?_
      refine RG.off (.no rfl rfl) rfl ?_
      refine RG.vv (FV.pick_f rfl rfl) rfl ?_
      refine RG.mv rfl rfl ?_
      refine RG.off (.no rfl rfl) rfl ?_
      refine RG.off (.no rfl rfl) rfl ?_
      refine RG.vv (FV.pick_f rfl rfl) rfl ?_
      refine RG.mv rfl rfl ?_
      refine RG.off (.no rfl rfl) rfl ?_
      refine RG.off (.no rfl rfl) rfl ?_
      refine RG.vv (FV.pick_f rfl rfl) rfl ?_
      refine RG.mv rfl rfl ?_
      refine RG.off (.no rfl rfl) rfl ?_
      refine RG.off (.no rfl rfl) rfl ?_
      refine RG.vv (FV.pick_f rfl rfl) rfl ?_
      refine RG.sg rfl rfl ?_
      refine RG.nil ?_
      obtain ⟨hS4758, hT4759⟩ := St.arrB hS1884 (.one (.tl (.tl (.tl (.tl (.tl (.tl .hd)))))) (.one (.tl (.tl (.tl (.tl (.tl (.tl (.tl (.tl .hd)))))))) (.one (.tl (.tl (.tl (.tl (.tl (.tl (.tl (.tl .hd)))))))) .done)))
      exact hJ1910 false _ _ ⟨rfl, rfl, rfl, trivial⟩ ⟨hS4758, hT4759⟩ h
     refine RG.off (.no rfl rfl) rfl ?_
     refine RG.off (.no rfl rfl) rfl ?_
     refine RG.vv (FV.pick_f rfl rfl) rfl ?_
     refine RG.mv rfl rfl ?_
     refine RG.off (.no rfl rfl) rfl ?_
     refine RG.off (.no rfl rfl) rfl ?_
     refine RG.vv (FV.pick_f rfl rfl) rfl ?_
     refine RG.mv rfl rfl ?_
     refine RG.off (.no rfl rfl) rfl ?_
     refine RG.off (.no rfl rfl) rfl ?_
     refine RG.off (.no rfl rfl) rfl ?_
     refine RG.off (.no rfl rfl) rfl ?_
     refine RG.vv (FV.pick_f rfl rfl) rfl ?_
     refine RG.mv rfl rfl ?_
     refine RG.off (.no rfl rfl) rfl ?_
     refine RG.off (.no rfl rfl) rfl ?_
     refine RG.vv (FV.pick_f rfl rfl) rfl ?_
     refine RG.mv rfl rfl ?_
     refine RG.off (.no rfl rfl) rfl ?_
     refine RG.off (.no rfl rfl) rfl ?_
     refine RG.vv (FV.pick_f rfl rfl) rfl ?_
     refine RG.mv rfl rfl ?_
     refine RG.off (.no rfl rfl) rfl ?_
     refine RG.off (.no rfl rfl) rfl ?_
     refine RG.vv (FV.pick_f rfl rfl) rfl ?_
     refine RG.mv rfl rfl ?_
     refine RG.off (.no rfl rfl) rfl ?_
     refine RG.off (.no rfl rfl) rfl ?_
     refine RG.vv (FV.pick_f rfl rfl) rfl ?_
     refine RG.mv rfl rfl ?_
     refine RG.off (.no rfl rfl) rfl ?_
     refine RG.off (.no rfl rfl) rfl ?_
     refine RG.vv (FV.pick_f rfl rfl) rfl ?_
     refine RG.mv rfl rfl ?_
     refine RG.off (.no rfl rfl) rfl ?_
     refine RG.off (.no rfl rfl) rfl ?_
     refine RG.vv (FV.pick_f rfl rfl) rfl ?_
     refine RG.mv rfl rfl ?_
     refine RG.off (.no rfl rfl) rfl ?_
     refine RG.off (.no rfl rfl) rfl ?_
     refine RG.vv (FV.pick_f rfl rfl) rfl ?_
     refine RG.mv rfl rfl ?_
     refine RG.off (.no rfl rfl) rfl ?_
     refine RG.off (.no rfl rfl) rfl ?_
     refine RG.vv (FV.pick_f rfl rfl) rfl ?_
     refine RG.mv rfl rfl ?_
     refine RG.off (.no rfl rfl) rfl ?_
     refine RG.off (.no rfl rfl) rfl ?_
     refine RG.vv (FV.pick_f rfl rfl) rfl ?_
     refine RG.mv rfl rfl ?_
     refine RG.off (.no rfl rfl) rfl ?_
     refine RG.off (.no rfl rfl) rfl ?_
     refine RG.vv (FV.pick_f rfl rfl) rfl ?_
     refine RG.mv rfl rfl ?_
     refine RG.off (.no rfl rfl) rfl ?_
     refine RG.off (.no rfl rfl) rfl ?_
     refine RG.vv (FV.pick_f rfl rfl) rfl ?_
     refine RG.mv rfl rfl ?_
     refine RG.off (.no rfl rfl) rfl ?_
     refine RG.off (.no rfl rfl) rfl ?_
     refine RG.vv (FV.pick_f rfl rfl) rfl ?_
     refine RG.sg rfl rfl ?_
     refine RG.nil ?_
     obtain ⟨hS4760, hT4761⟩ := St.arrB hS1884 (.one (.tl (.tl (.tl (.tl (.tl (.tl .hd)))))) (.one (.tl (.tl (.tl (.tl (.tl (.tl (.tl (.tl .hd)))))))) (.one (.tl (.tl (.tl (.tl (.tl (.tl (.tl (.tl .hd)))))))) .done)))
     exact hJ1910 false _ _ ⟨rfl, rfl, rfl, trivial⟩ ⟨hS4760, hT4761⟩ h
   ·skip
    intro J1796 hJ1797 h
    try dsimp only at h
    refine MX.drawT 48 tb6_9 (by kernel_rfl) (by kernel_rfl) (by kernel_rfl) (fun kt4762 kp4763 => ?_)
    refine RD.vx 2 4 281474976710640 kt4762 rfl kp4763 (FV.loadN (by kernel_rfl) rfl (hS178.memA (.tl (.tl (.tl (.tl (.tl .hd))))))) rfl ?_
    refine RD.meet (α := Value × (List Value) × Value × Nat) (fun ⟨v6289, cs6290, v6292, b6294⟩ => [(1, .pointer (some ⟨b20, 0, none⟩)), (2, .pointer (some ⟨b41, 0, none⟩)), (3, .pointer (some ⟨b95, 0, none⟩)), (4, .pointer (some ⟨b176, 0, none⟩)), (53, .agg #[.int .i64 y24.fGroups, .int .i64 y24.fParties, .int .i64 y24.fLevels, v73]), (52, .func (.func 91) #[] #[.pointer (some ⟨b6294, 0, none⟩)]), (54, v6289)]) (fun ⟨v6289, cs6290, v6292, b6294⟩ wx6294 => St w wx6294 [.row w.heap.size 3 (Rep.size Int) v6289 (([(0 : Int), (0 : Int), (0 : Int), (1 : Int)] : List Int).length) cs6290, .cells b6294 [v6292] 45, .cells b176 [.int .i64 0, .int .i64 0, .int .i64 0, (.slice (some ⟨b158, 0, none⟩) 2 2)] 44, .row w.heap.size 65 (Rep.size TUnit) (.slice (some ⟨b158, 0, none⟩) 2 2) (([(⟨⟨#[120]⟩, (0 : Int), ([] : List Int), ([] : List Int), ([] : List Int), false⟩ : TUnit), (⟨⟨#[121]⟩, (0 : Int), ([] : List Int), ([] : List Int), ([] : List Int), false⟩ : TUnit)] : List TUnit).length) [.string ⟨#[120]⟩, .int .i64 0, .slice none 0 0, .slice none 0 0, .slice none 0 0, .bool false, .string ⟨#[121]⟩, .int .i64 0, .slice none 0 0, .slice none 0 0, .slice none 0 0, .bool false], .cells b95 [.int .i64 y78.fGroups, .int .i64 y78.fParties, .int .i64 y78.fLevels, v86] 44, .row w.heap.size 65 (Rep.size TUnit) v86 xs130.length cs135, .cells b41 [.int .i64 y24.fGroups, .int .i64 y24.fParties, .int .i64 y24.fLevels, v73] 44, .row w.heap.size 65 (Rep.size TUnit) v73 xs66.length cs72, .cells b20 [.int .i64 y3.fGroups, .int .i64 y3.fParties, .int .i64 y3.fLevels, v11] 44, .row w.heap.size 65 (Rep.size TUnit) v11 y3.fUnits.length cs12] ∧ Tr w177 [.cells b176 [.int .i64 0, .int .i64 0, .int .i64 0, (.slice (some ⟨b158, 0, none⟩) 2 2)] 44, .row w.heap.size 65 (Rep.size TUnit) (.slice (some ⟨b158, 0, none⟩) 2 2) (([(⟨⟨#[120]⟩, (0 : Int), ([] : List Int), ([] : List Int), ([] : List Int), false⟩ : TUnit), (⟨⟨#[121]⟩, (0 : Int), ([] : List Int), ([] : List Int), ([] : List Int), false⟩ : TUnit)] : List TUnit).length) [.string ⟨#[120]⟩, .int .i64 0, .slice none 0 0, .slice none 0 0, .slice none 0 0, .bool false, .string ⟨#[121]⟩, .int .i64 0, .slice none 0 0, .slice none 0 0, .slice none 0 0, .bool false], .cells b95 [.int .i64 y78.fGroups, .int .i64 y78.fParties, .int .i64 y78.fLevels, v86] 44, .row w.heap.size 65 (Rep.size TUnit) v86 xs130.length cs135, .row w.heap.size 65 (Rep.size TUnit) (.slice (some ⟨b58, 0, none⟩) 1 1) (([(⟨⟨#[115, 101, 97]⟩, (0 : Int), ([] : List Int), ([] : List Int), ([] : List Int), true⟩ : TUnit)] : List TUnit).length) [.string ⟨#[115, 101, 97]⟩, .int .i64 0, .slice none 0 0, .slice none 0 0, .slice none 0 0, .bool true], .cells b41 [.int .i64 y24.fGroups, .int .i64 y24.fParties, .int .i64 y24.fLevels, v73] 44, .row w.heap.size 65 (Rep.size TUnit) v73 xs66.length cs72, .cells b20 [.int .i64 y3.fGroups, .int .i64 y3.fParties, .int .i64 y3.fLevels, v11] 44, .row w.heap.size 65 (Rep.size TUnit) v11 y3.fUnits.length cs12] wx6294 [.row w.heap.size 3 (Rep.size Int) v6289 (([(0 : Int), (0 : Int), (0 : Int), (1 : Int)] : List Int).length) cs6290, .cells b6294 [v6292] 45, .cells b176 [.int .i64 0, .int .i64 0, .int .i64 0, (.slice (some ⟨b158, 0, none⟩) 2 2)] 44, .row w.heap.size 65 (Rep.size TUnit) (.slice (some ⟨b158, 0, none⟩) 2 2) (([(⟨⟨#[120]⟩, (0 : Int), ([] : List Int), ([] : List Int), ([] : List Int), false⟩ : TUnit), (⟨⟨#[121]⟩, (0 : Int), ([] : List Int), ([] : List Int), ([] : List Int), false⟩ : TUnit)] : List TUnit).length) [.string ⟨#[120]⟩, .int .i64 0, .slice none 0 0, .slice none 0 0, .slice none 0 0, .bool false, .string ⟨#[121]⟩, .int .i64 0, .slice none 0 0, .slice none 0 0, .slice none 0 0, .bool false], .cells b95 [.int .i64 y78.fGroups, .int .i64 y78.fParties, .int .i64 y78.fLevels, v86] 44, .row w.heap.size 65 (Rep.size TUnit) v86 xs130.length cs135, .cells b41 [.int .i64 y24.fGroups, .int .i64 y24.fParties, .int .i64 y24.fLevels, v73] 44, .row w.heap.size 65 (Rep.size TUnit) v73 xs66.length cs72, .cells b20 [.int .i64 y3.fGroups, .int .i64 y3.fParties, .int .i64 y3.fLevels, v11] 44, .row w.heap.size 65 (Rep.size TUnit) v11 y3.fUnits.length cs12] ∧ Cells wx6294 (bl [.row w.heap.size 3 (Rep.size Int) v6289 (([(0 : Int), (0 : Int), (0 : Int), (1 : Int)] : List Int).length) cs6290, .cells b6294 [v6292] 45, .cells b176 [.int .i64 0, .int .i64 0, .int .i64 0, (.slice (some ⟨b158, 0, none⟩) 2 2)] 44, .row w.heap.size 65 (Rep.size TUnit) (.slice (some ⟨b158, 0, none⟩) 2 2) (([(⟨⟨#[120]⟩, (0 : Int), ([] : List Int), ([] : List Int), ([] : List Int), false⟩ : TUnit), (⟨⟨#[121]⟩, (0 : Int), ([] : List Int), ([] : List Int), ([] : List Int), false⟩ : TUnit)] : List TUnit).length) [.string ⟨#[120]⟩, .int .i64 0, .slice none 0 0, .slice none 0 0, .slice none 0 0, .bool false, .string ⟨#[121]⟩, .int .i64 0, .slice none 0 0, .slice none 0 0, .slice none 0 0, .bool false], .cells b95 [.int .i64 y78.fGroups, .int .i64 y78.fParties, .int .i64 y78.fLevels, v86] 44, .row w.heap.size 65 (Rep.size TUnit) v86 xs130.length cs135, .cells b41 [.int .i64 y24.fGroups, .int .i64 y24.fParties, .int .i64 y24.fLevels, v73] 44, .row w.heap.size 65 (Rep.size TUnit) v73 xs66.length cs72, .cells b20 [.int .i64 y3.fGroups, .int .i64 y3.fParties, .int .i64 y3.fLevels, v11] 44, .row w.heap.size 65 (Rep.size TUnit) v11 y3.fUnits.length cs12] ++ L) cs6290 (([(0 : Int), (0 : Int), (0 : Int), (1 : Int)] : List Int) : List Int) ∧ Rep.R wx6294 (bl [.row w.heap.size 3 (Rep.size Int) v6289 (([(0 : Int), (0 : Int), (0 : Int), (1 : Int)] : List Int).length) cs6290, .cells b6294 [v6292] 45, .cells b176 [.int .i64 0, .int .i64 0, .int .i64 0, (.slice (some ⟨b158, 0, none⟩) 2 2)] 44, .row w.heap.size 65 (Rep.size TUnit) (.slice (some ⟨b158, 0, none⟩) 2 2) (([(⟨⟨#[120]⟩, (0 : Int), ([] : List Int), ([] : List Int), ([] : List Int), false⟩ : TUnit), (⟨⟨#[121]⟩, (0 : Int), ([] : List Int), ([] : List Int), ([] : List Int), false⟩ : TUnit)] : List TUnit).length) [.string ⟨#[120]⟩, .int .i64 0, .slice none 0 0, .slice none 0 0, .slice none 0 0, .bool false, .string ⟨#[121]⟩, .int .i64 0, .slice none 0 0, .slice none 0 0, .slice none 0 0, .bool false], .cells b95 [.int .i64 y78.fGroups, .int .i64 y78.fParties, .int .i64 y78.fLevels, v86] 44, .row w.heap.size 65 (Rep.size TUnit) v86 xs130.length cs135, .cells b41 [.int .i64 y24.fGroups, .int .i64 y24.fParties, .int .i64 y24.fLevels, v73] 44, .row w.heap.size 65 (Rep.size TUnit) v73 xs66.length cs72, .cells b20 [.int .i64 y3.fGroups, .int .i64 y3.fParties, .int .i64 y3.fLevels, v11] 44, .row w.heap.size 65 (Rep.size TUnit) v11 y3.fUnits.length cs12] ++ L) [v6292] ([(60 : Int), (40 : Int)] : List Int)) 44 15 ?_ ?_
    ·skip
     rintro ⟨v6289, cs6290, v6292, b6294⟩ wx6294 ⟨hS6295, hT6296, hc6291, hr6293⟩
     try dsimp only
     have hm6302 := Cells.mv hc71 (Tr.trans hT77 (Tr.trans hT85 (Tr.trans hT94 (Tr.trans hT98 (Tr.trans hT133 (Tr.trans hT157 (Tr.trans hT175 (Tr.trans hT179 hT6296))))))))
     have hr6299 := St.freeze (α := TUnit) hS6295 (.tl (.tl (.tl (.tl (.tl (.tl (.tl .hd))))))) hm6302 hL
     have hS6300 := St.delS hS6295 (.tl (.tl (.tl (.tl (.tl (.tl (.tl .hd)))))))
     have hT6301 := St.delT hS6295 (.tl (.tl (.tl (.tl (.tl (.tl (.tl .hd)))))))
     have hr6303 := Rep.at_ (α := TUnit) (v := v73) (xs := xs66) hS6300 L hr6299
     have hm6307 := Cells.mv hc6291 hT6301
     have hr6304 := St.freeze (α := Int) hS6300 .hd hm6307 hL
     have hS6305 := St.delS hS6300 .hd
     have hT6306 := St.delT hS6300 .hd
     have hr6308 := Rep.at_ (α := Int) (v := v6289) (xs := ([(0 : Int), (0 : Int), (0 : Int), (1 : Int)] : List Int)) hS6305 L hr6304
     obtain ⟨y6298, hy6298, h⟩ := bind_in h
     have hm6309 := Rep.mv hr6303 hT6306
     refine RD.cl 4 31 kt4762 rfl .plain body19 rfl (evs_cons rfl (evs_cons rfl (evs_cons rfl evs_nil))) (fun w9 hw9 => balance_Totals_c n _ w9 (hS6305.hL hL hw9) (⟨y24.fGroups, y24.fParties, y24.fLevels, xs66⟩ : TRoll) (Rep.keep0 hm6309 hw9) ([(0 : Int), (0 : Int), (0 : Int), (1 : Int)] : List Int) (Rep.keep0 hr6308 hw9) (2 : Int) hy6298) rfl (fun w6310 vu6311 hag6312 ⟨v6315, hu_, hr6316⟩ => ?_)
     subst hu_
     obtain ⟨hS6313, hT6314⟩ := hS6305.agr hag6312
     refine RD.vw 5 63 kt4762 rfl kp4763 (fun _ => FV.extract rfl rfl) rfl ?_
     refine RD.vw 6 127 kt4762 rfl kp4763 (fun _ => FV.extract rfl rfl) rfl ?_
     obtain ⟨y6317, hy6317, h⟩ := bind_in h
     have hm6318 := Rep.mv hr6293 (Tr.trans hT6301 (Tr.trans hT6306 hT6314))
     refine RD.callq (i := 7) (m' := 255) (W := 281474976710400) (takeC_ok kt4762 (by kernel_rfl)) rfl kp4763 (v := .bool y6317) (fst := []) (cap := [.pointer (some ⟨b6294, 0, none⟩)]) .plain body91 rfl (evs_cons rfl (evs_cons rfl evs_nil)) (fun w9 hw9 => wardmotelaw22_is_1_c n _ w9 (hS6313.hL0 hL hw9) y6298.1 (Rep.keep0 (Rep.dropS hS6313 hr6316) hw9) y6298.2 ([(60 : Int), (40 : Int)] : List Int) (Rep.keep0 (Rep.dropS hS6313 hm6318) hw9) (fun j9 v9 h9 => hw9.cell0 ((hS6313.memA .hd) j9 v9 h9)) hy6317) rfl ?_
     refine RD.vw 8 511 kt4762 rfl kp4763 (fun _ => FV.move rfl) rfl ?_
     refine RD.ifb (s := 59) rfl h (fun c6319 h => ?_) (fun c6319 h => ?_)
     ·skip
      refine RD.val (i := 9) (m' := 1023) (W := 281474976708608) (takeC_ok kt4762 (by kernel_rfl)) rfl kp4763 (.yes rfl rfl) (FV.loadN (by kernel_rfl) rfl (hS6313.memA (.tl (.tl (.tl (.tl (.tl .hd))))))) rfl ?_
      refine RD.nu 10 2047 kt4762 rfl (.yes rfl rfl) rfl (Does.build (α := Int) (xs := ([(0 : Int), (0 : Int), (0 : Int), (1 : Int), (1 : Int)] : List Int)) (vs := [.int .i64 0, .int .i64 0, .int .i64 0, .int .i64 1, .int .i64 1]) (ds' := [.int .i64 0, .int .i64 0, .int .i64 0, .int .i64 1, .int .i64 1]) rfl hS6313 el46 rfl (evs_cons rfl (evs_cons rfl (evs_cons rfl (evs_cons rfl (evs_cons rfl evs_nil))))) (by kernel_rfl) rfl) (fun w6321 b6324 hS6322 hT6323 => ?_)
      have hc6325 := Cells.at_ (cs := [.int .i64 0, .int .i64 0, .int .i64 0, .int .i64 1, .int .i64 1]) (xs := (([(0 : Int), (0 : Int), (0 : Int), (1 : Int), (1 : Int)] : List Int) : List Int)) hS6322 L (Cells.cons (cs := [.int .i64 0]) (ds := [.int .i64 0, .int .i64 0, .int .i64 1, .int .i64 1]) rfl (Cells.cons (cs := [.int .i64 0]) (ds := [.int .i64 0, .int .i64 1, .int .i64 1]) rfl (Cells.cons (cs := [.int .i64 0]) (ds := [.int .i64 1, .int .i64 1]) rfl (Cells.cons (cs := [.int .i64 1]) (ds := [.int .i64 1]) rfl (Cells.cons (cs := [.int .i64 1]) (ds := []) rfl (Cells.nil _ _))))))
      obtain ⟨y6326, hy6326, h⟩ := bind_in h
      have hm6327 := Rep.mv hr6303 (Tr.trans hT6306 (Tr.trans hT6314 hT6323))
      refine RD.callq (i := 11) (m' := 4095) (W := 281474976706560) (takeC_ok kt4762 (by kernel_rfl)) rfl kp4763 (v := .int .i64 y6326) (fst := []) (cap := []) (.yes rfl rfl) body29 rfl (evs_cons rfl (evs_cons rfl (evs_cons rfl evs_nil))) (fun w9 hw9 => balance_Check_c n _ w9 (hS6322.hL0 hL hw9) (⟨y24.fGroups, y24.fParties, y24.fLevels, xs66⟩ : TRoll) (Rep.keep0 (Rep.dropS hS6322 hm6327) hw9) ([(0 : Int), (0 : Int), (0 : Int), (1 : Int), (1 : Int)] : List Int) (Rep.keep0 (St.lend (α := Int) (L := L) hS6322 .hd hc6325 hL) hw9) (2 : Int) hy6326) rfl ?_
      refine RD.vP 12 8191 kt4762 rfl kp4763 (.yes rfl rfl) (fun _ => FV.eql (i := y6326) (j := 220) rfl rfl) rfl ?_
      refine RD.vw 13 16383 kt4762 rfl kp4763 (fun _ => FV.pick_t rfl rfl) rfl ?_
      refine RD.vw 14 32767 kt4762 rfl kp4763 (fun _ => FV.move rfl) rfl ?_
      refine RD.ifd (s := 65) rfl h (fun c6328 h => ?_) (fun c6328 h => ?_)
      ·skip
       refine RD.val (i := 15) (m' := 65535) (W := 281474976579584) (takeC_ok kt4762 (by kernel_rfl)) rfl kp4763 (.yes rfl rfl) (FV.loadN (by kernel_rfl) rfl (hS6322.memA (.tl (.tl (.tl (.tl (.tl (.tl (.tl .hd))))))))) rfl ?_
       refine RD.nu 16 131071 kt4762 rfl (.yes rfl rfl) rfl (Does.build (α := Int) (xs := ([(0 : Int), (1 : Int), (2 : Int), (3 : Int)] : List Int)) (vs := [.int .i64 0, .int .i64 1, .int .i64 2, .int .i64 3]) (ds' := [.int .i64 0, .int .i64 1, .int .i64 2, .int .i64 3]) rfl hS6322 el46 rfl (evs_cons rfl (evs_cons rfl (evs_cons rfl (evs_cons rfl evs_nil)))) (by kernel_rfl) rfl) (fun w6330 b6333 hS6331 hT6332 => ?_)
       have hc6334 := Cells.at_ (cs := [.int .i64 0, .int .i64 1, .int .i64 2, .int .i64 3]) (xs := (([(0 : Int), (1 : Int), (2 : Int), (3 : Int)] : List Int) : List Int)) hS6331 L (Cells.cons (cs := [.int .i64 0]) (ds := [.int .i64 1, .int .i64 2, .int .i64 3]) rfl (Cells.cons (cs := [.int .i64 1]) (ds := [.int .i64 2, .int .i64 3]) rfl (Cells.cons (cs := [.int .i64 2]) (ds := [.int .i64 3]) rfl (Cells.cons (cs := [.int .i64 3]) (ds := []) rfl (Cells.nil _ _)))))
       obtain ⟨y6335, hy6335, h⟩ := bind_in h
       have hm6336 := Cells.mv hc15 (Tr.trans hT19 (Tr.trans hT23 (Tr.trans hT31 (Tr.trans hT40 (Tr.trans hT44 (Tr.trans hT57 (Tr.trans hT70 (Tr.trans hT77 (Tr.trans hT85 (Tr.trans hT94 (Tr.trans hT98 (Tr.trans hT133 (Tr.trans hT157 (Tr.trans hT175 (Tr.trans hT179 (Tr.trans hT6296 (Tr.trans hT6301 (Tr.trans hT6306 (Tr.trans hT6314 (Tr.trans hT6323 hT6332))))))))))))))))))))
       refine RD.callq (i := 17) (m' := 262143) (W := 281474976448512) (takeC_ok kt4762 (by kernel_rfl)) rfl kp4763 (v := .int .i64 y6335) (fst := []) (cap := []) (.yes rfl rfl) body29 rfl (evs_cons rfl (evs_cons rfl (evs_cons rfl evs_nil))) (fun w9 hw9 => balance_Check_c n _ w9 (hS6331.hL0 hL hw9) y3 (Rep.keep0 (St.lend (α := TUnit) (L := L) hS6331 (.tl (.tl (.tl (.tl (.tl (.tl (.tl (.tl (.tl .hd))))))))) hm6336 hL) hw9) ([(0 : Int), (1 : Int), (2 : Int), (3 : Int)] : List Int) (Rep.keep0 (St.lend (α := Int) (L := L) hS6331 .hd hc6334 hL) hw9) (4 : Int) hy6335) rfl ?_
       refine RD.vP 18 524287 kt4762 rfl kp4763 (.yes rfl rfl) (fun _ => FV.eql (i := y6335) (j := 0) rfl rfl) rfl ?_
       refine RD.vw 19 1048575 kt4762 rfl kp4763 (fun _ => FV.pick_t rfl rfl) rfl ?_
       refine RD.vw 20 2097151 kt4762 rfl kp4763 (fun _ => FV.move rfl) rfl ?_
       refine RD.ifd (s := 71) rfl h (fun c6337 h => ?_) (fun c6337 h => ?_)
       ·skip
        refine RD.val (i := 21) (m' := 4194303) (W := 281474972516352) (takeC_ok kt4762 (by kernel_rfl)) rfl kp4763 (.yes rfl rfl) (FV.loadN (by kernel_rfl) rfl (hS6331.memA (.tl (.tl (.tl (.tl (.tl (.tl (.tl (.tl .hd)))))))))) rfl ?_
        obtain ⟨y6338, hy6338, h⟩ := bind_in h
        refine RD.callq (i := 22) (m' := 8388607) (W := 281474968322048) (takeC_ok kt4762 (by kernel_rfl)) rfl kp4763 (v := .int .i64 y6338) (fst := []) (cap := []) (.yes rfl rfl) body29 rfl (evs_cons rfl (evs_cons rfl (evs_cons rfl evs_nil))) (fun w9 hw9 => balance_Check_c n _ w9 (hS6331.hL0 hL hw9) y3 (Rep.keep0 (St.lend (α := TUnit) (L := L) hS6331 (.tl (.tl (.tl (.tl (.tl (.tl (.tl (.tl (.tl .hd))))))))) hm6336 hL) hw9) ([] : List Int) (Rep.keep0 (Rep.nilSlice _ _) hw9) (0 : Int) hy6338) rfl ?_
        refine RD.vP 23 16777215 kt4762 rfl kp4763 (.yes rfl rfl) (fun _ => FV.eql (i := y6338) (j := 2) rfl rfl) rfl ?_
        refine RD.vw 24 33554431 kt4762 rfl kp4763 (fun _ => FV.pick_t rfl rfl) rfl ?_
        refine RD.vw 25 67108863 kt4762 rfl kp4763 (fun _ => FV.move rfl) rfl ?_
        refine RD.ifd (s := 76) rfl h (fun c6339 h => ?_) (fun c6339 h => ?_)
        ·skip
         refine RD.val (i := 26) (m' := 134217727) (W := 281474842492928) (takeC_ok kt4762 (by kernel_rfl)) rfl kp4763 (.yes rfl rfl) (FV.loadN (by kernel_rfl) rfl (hS6331.memA (.tl (.tl (.tl (.tl (.tl (.tl (.tl (.tl .hd)))))))))) rfl ?_
         obtain ⟨y6340, hy6340, h⟩ := bind_in h
         refine RD.callq (i := 27) (m' := 268435455) (W := 281474708275200) (takeC_ok kt4762 (by kernel_rfl)) rfl kp4763 (v := .int .i64 y6340) (fst := []) (cap := []) (.yes rfl rfl) body29 rfl (evs_cons rfl (evs_cons rfl (evs_cons rfl evs_nil))) (fun w9 hw9 => balance_Check_c n _ w9 (hS6331.hL0 hL hw9) y3 (Rep.keep0 (St.lend (α := TUnit) (L := L) hS6331 (.tl (.tl (.tl (.tl (.tl (.tl (.tl (.tl (.tl .hd))))))))) hm6336 hL) hw9) ([] : List Int) (Rep.keep0 (Rep.nilSlice _ _) hw9) (9 : Int) hy6340) rfl ?_
         refine RD.vP 28 536870911 kt4762 rfl kp4763 (.yes rfl rfl) (fun _ => FV.eql (i := y6340) (j := 2) rfl rfl) rfl ?_
         refine RD.vw 29 1073741823 kt4762 rfl kp4763 (fun _ => FV.pick_t rfl rfl) rfl ?_
         refine RD.vw 30 2147483647 kt4762 rfl kp4763 (fun _ => FV.move rfl) rfl ?_
         refine RD.ifd (s := 81) rfl h (fun c6341 h => ?_) (fun c6341 h => ?_)
         ·skip
          refine RD.val (i := 31) (m' := 4294967295) (W := 281470681743360) (takeC_ok kt4762 (by kernel_rfl)) rfl kp4763 (.yes rfl rfl) (FV.loadN (by kernel_rfl) rfl (hS6331.memA (.tl (.tl (.tl (.tl (.tl (.tl (.tl (.tl .hd)))))))))) rfl ?_
          obtain ⟨y6342, hy6342, h⟩ := bind_in h
          refine RD.callq (i := 32) (m' := 8589934591) (W := 281466386776064) (takeC_ok kt4762 (by kernel_rfl)) rfl kp4763 (v := .int .i64 y6342) (fst := []) (cap := []) (.yes rfl rfl) body29 rfl (evs_cons rfl (evs_cons rfl (evs_cons rfl evs_nil))) (fun w9 hw9 => balance_Check_c n _ w9 (hS6331.hL0 hL hw9) y3 (Rep.keep0 (St.lend (α := TUnit) (L := L) hS6331 (.tl (.tl (.tl (.tl (.tl (.tl (.tl (.tl (.tl .hd))))))))) hm6336 hL) hw9) ([] : List Int) (Rep.keep0 (Rep.nilSlice _ _) hw9) (1 : Int) hy6342) rfl ?_
          refine RD.vP 33 17179869183 kt4762 rfl kp4763 (.yes rfl rfl) (fun _ => FV.eql (i := y6342) (j := 220) rfl rfl) rfl ?_
          refine RD.vw 34 34359738367 kt4762 rfl kp4763 (fun _ => FV.pick_t rfl rfl) rfl ?_
          refine RD.vw 35 68719476735 kt4762 rfl kp4763 (fun _ => FV.move rfl) rfl ?_
          refine RD.ifd (s := 86) rfl h (fun c6343 h => ?_) (fun c6343 h => ?_)
          ·skip
           refine RD.val (i := 36) (m' := 137438953471) (W := 281200098803712) (takeC_ok kt4762 (by kernel_rfl)) rfl kp4763 (.yes rfl rfl) (FV.loadN (by kernel_rfl) rfl (hS6331.memA (.tl (.tl (.tl (.tl (.tl (.tl (.tl (.tl .hd)))))))))) rfl ?_
           refine RD.nu 37 274877906943 kt4762 rfl (.yes rfl rfl) rfl (Does.build (α := Int) (xs := ([(0 : Int), (0 : Int), (0 : Int), (-1 : Int)] : List Int)) (vs := [.int .i64 0, .int .i64 0, .int .i64 0, .int .i64 (-1)]) (ds' := [.int .i64 0, .int .i64 0, .int .i64 0, .int .i64 (-1)]) rfl hS6331 el46 rfl (evs_cons rfl (evs_cons rfl (evs_cons rfl (evs_cons rfl evs_nil)))) (by kernel_rfl) rfl) (fun w6345 b6348 hS6346 hT6347 => ?_)
           have hc6349 := Cells.at_ (cs := [.int .i64 0, .int .i64 0, .int .i64 0, .int .i64 (-1)]) (xs := (([(0 : Int), (0 : Int), (0 : Int), (-1 : Int)] : List Int) : List Int)) hS6346 L (Cells.cons (cs := [.int .i64 0]) (ds := [.int .i64 0, .int .i64 0, .int .i64 (-1)]) rfl (Cells.cons (cs := [.int .i64 0]) (ds := [.int .i64 0, .int .i64 (-1)]) rfl (Cells.cons (cs := [.int .i64 0]) (ds := [.int .i64 (-1)]) rfl (Cells.cons (cs := [.int .i64 (-1)]) (ds := []) rfl (Cells.nil _ _)))))
           obtain ⟨y6350, hy6350, h⟩ := bind_in h
           have hm6351 := Cells.mv hc15 (Tr.trans hT19 (Tr.trans hT23 (Tr.trans hT31 (Tr.trans hT40 (Tr.trans hT44 (Tr.trans hT57 (Tr.trans hT70 (Tr.trans hT77 (Tr.trans hT85 (Tr.trans hT94 (Tr.trans hT98 (Tr.trans hT133 (Tr.trans hT157 (Tr.trans hT175 (Tr.trans hT179 (Tr.trans hT6296 (Tr.trans hT6301 (Tr.trans hT6306 (Tr.trans hT6314 (Tr.trans hT6323 (Tr.trans hT6332 hT6347)))))))))))))))))))))
           refine RD.callq (i := 38) (m' := 549755813887) (W := 280925220896768) (takeC_ok kt4762 (by kernel_rfl)) rfl kp4763 (v := .int .i64 y6350) (fst := []) (cap := []) (.yes rfl rfl) body29 rfl (evs_cons rfl (evs_cons rfl (evs_cons rfl evs_nil))) (fun w9 hw9 => balance_Check_c n _ w9 (hS6346.hL0 hL hw9) y3 (Rep.keep0 (St.lend (α := TUnit) (L := L) hS6346 (.tl (.tl (.tl (.tl (.tl (.tl (.tl (.tl (.tl (.tl .hd)))))))))) hm6351 hL) hw9) ([(0 : Int), (0 : Int), (0 : Int), (-1 : Int)] : List Int) (Rep.keep0 (St.lend (α := Int) (L := L) hS6346 .hd hc6349 hL) hw9) (1 : Int) hy6350) rfl ?_
           refine RD.vP 39 1099511627775 kt4762 rfl kp4763 (.yes rfl rfl) (fun _ => FV.eql (i := y6350) (j := 220) rfl rfl) rfl ?_
           refine RD.vw 40 2199023255551 kt4762 rfl kp4763 (fun _ => FV.pick_t rfl rfl) rfl ?_
           refine RD.vw 41 4398046511103 kt4762 rfl kp4763 (fun _ => FV.move rfl) rfl ?_
           refine RD.ifd (s := 92) rfl h (fun c6352 h => ?_) (fun c6352 h => ?_)
           ·skip
            refine RD.val (i := 42) (m' := 8796093022207) (W := 263882790666240) (takeC_ok kt4762 (by kernel_rfl)) rfl kp4763 (.yes rfl rfl) (FV.loadN (by kernel_rfl) rfl (hS6346.memA (.tl (.tl (.tl (.tl (.tl (.tl (.tl (.tl (.tl .hd))))))))))) rfl ?_
            refine RD.nu 43 17592186044415 kt4762 rfl (.yes rfl rfl) rfl (Does.build (α := Int) (xs := ([(0 : Int), (0 : Int), (0 : Int), (2 : Int)] : List Int)) (vs := [.int .i64 0, .int .i64 0, .int .i64 0, .int .i64 2]) (ds' := [.int .i64 0, .int .i64 0, .int .i64 0, .int .i64 2]) rfl hS6346 el46 rfl (evs_cons rfl (evs_cons rfl (evs_cons rfl (evs_cons rfl evs_nil)))) (by kernel_rfl) rfl) (fun w6354 b6357 hS6355 hT6356 => ?_)
            have hc6358 := Cells.at_ (cs := [.int .i64 0, .int .i64 0, .int .i64 0, .int .i64 2]) (xs := (([(0 : Int), (0 : Int), (0 : Int), (2 : Int)] : List Int) : List Int)) hS6355 L (Cells.cons (cs := [.int .i64 0]) (ds := [.int .i64 0, .int .i64 0, .int .i64 2]) rfl (Cells.cons (cs := [.int .i64 0]) (ds := [.int .i64 0, .int .i64 2]) rfl (Cells.cons (cs := [.int .i64 0]) (ds := [.int .i64 2]) rfl (Cells.cons (cs := [.int .i64 2]) (ds := []) rfl (Cells.nil _ _)))))
            obtain ⟨y6359, hy6359, h⟩ := bind_in h
            have hm6360 := Cells.mv hc15 (Tr.trans hT19 (Tr.trans hT23 (Tr.trans hT31 (Tr.trans hT40 (Tr.trans hT44 (Tr.trans hT57 (Tr.trans hT70 (Tr.trans hT77 (Tr.trans hT85 (Tr.trans hT94 (Tr.trans hT98 (Tr.trans hT133 (Tr.trans hT157 (Tr.trans hT175 (Tr.trans hT179 (Tr.trans hT6296 (Tr.trans hT6301 (Tr.trans hT6306 (Tr.trans hT6314 (Tr.trans hT6323 (Tr.trans hT6332 (Tr.trans hT6347 hT6356))))))))))))))))))))))
            refine RD.callq (i := 44) (m' := 35184372088831) (W := 246290604621824) (takeC_ok kt4762 (by kernel_rfl)) rfl kp4763 (v := .int .i64 y6359) (fst := []) (cap := []) (.yes rfl rfl) body29 rfl (evs_cons rfl (evs_cons rfl (evs_cons rfl evs_nil))) (fun w9 hw9 => balance_Check_c n _ w9 (hS6355.hL0 hL hw9) y3 (Rep.keep0 (St.lend (α := TUnit) (L := L) hS6355 (.tl (.tl (.tl (.tl (.tl (.tl (.tl (.tl (.tl (.tl (.tl .hd))))))))))) hm6360 hL) hw9) ([(0 : Int), (0 : Int), (0 : Int), (2 : Int)] : List Int) (Rep.keep0 (St.lend (α := Int) (L := L) hS6355 .hd hc6358 hL) hw9) (2 : Int) hy6359) rfl ?_
            refine RD.vP 45 70368744177663 kt4762 rfl kp4763 (.yes rfl rfl) (fun _ => FV.eql (i := y6359) (j := 220) rfl rfl) rfl ?_
            refine RD.vw 46 140737488355327 kt4762 rfl kp4763 (fun _ => FV.pick_t rfl rfl) rfl ?_
            refine RD.vw 47 281474976710655 kt4762 rfl kp4763 (fun _ => FV.assign rfl) rfl ?_
            refine RD.done (doneD_ok kt4762 (by kernel_rfl)) ?_
            obtain ⟨hS6361, hT6362⟩ := St.arrB hS6355 (.one (.tl (.tl (.tl (.tl (.tl .hd))))) (.one (.tl (.tl (.tl (.tl (.tl .hd))))) (.one (.tl (.tl (.tl (.tl (.tl .hd))))) (.one (.tl (.tl (.tl (.tl (.tl .hd))))) (.one (.tl (.tl (.tl (.tl (.tl (.tl .hd)))))) (.one (.tl (.tl (.tl (.tl (.tl (.tl .hd)))))) .done))))))
            exact hJ1797 (decide (y6359 = 220)) _ _ ⟨rfl, rfl, rfl, rfl, trivial⟩ ⟨hS6361, (Tr.trans hT6296 (Tr.trans hT6301 (Tr.trans hT6306 (Tr.trans hT6314 (Tr.trans hT6323 (Tr.trans hT6332 (Tr.trans hT6347 (Tr.trans hT6356 hT6362))))))))⟩ h
           refine RD.offs 70368744177663 2 [(42, 93), (43, 94), (44, 95), (45, 96)] (F := [(92, false)]) (U := []) kt4762 kp4763 (.cons rfl .nil) .nil ?_
           dsimp only [offS, List.map]
           refine RD.vw 46 140737488355327 kt4762 rfl kp4763 (fun _ => FV.pick_f rfl rfl) rfl ?_
           refine RD.vw 47 281474976710655 kt4762 rfl kp4763 (fun _ => FV.assign rfl) rfl ?_
           refine RD.done (doneD_ok kt4762 (by kernel_rfl)) ?_
           obtain ⟨hS6363, hT6364⟩ := St.arrB hS6346 (.one (.tl (.tl (.tl (.tl .hd)))) (.one (.tl (.tl (.tl (.tl .hd)))) (.one (.tl (.tl (.tl (.tl .hd)))) (.one (.tl (.tl (.tl (.tl .hd)))) (.one (.tl (.tl (.tl (.tl (.tl .hd))))) (.one (.tl (.tl (.tl (.tl (.tl .hd))))) .done))))))
           exact hJ1797 false _ _ ⟨rfl, rfl, rfl, rfl, trivial⟩ ⟨hS6363, (Tr.trans hT6296 (Tr.trans hT6301 (Tr.trans hT6306 (Tr.trans hT6314 (Tr.trans hT6323 (Tr.trans hT6332 (Tr.trans hT6347 hT6364)))))))⟩ h
          refine RD.offs 1099511627775 8 [(36, 87), (37, 88), (38, 89), (39, 90)] (F := [(86, false)]) (U := []) kt4762 kp4763 (.cons rfl .nil) .nil ?_
          dsimp only [offS, List.map]
          refine RD.vw 40 2199023255551 kt4762 rfl kp4763 (fun _ => FV.pick_f rfl rfl) rfl ?_
          refine RD.vw 41 4398046511103 kt4762 rfl kp4763 (fun _ => FV.move rfl) rfl ?_
          refine RD.offs 70368744177663 2 [(42, 93), (43, 94), (44, 95), (45, 96)] (F := [(92, false)]) (U := []) kt4762 kp4763 (.cons rfl .nil) .nil ?_
          dsimp only [offS, List.map]
          refine RD.vw 46 140737488355327 kt4762 rfl kp4763 (fun _ => FV.pick_f rfl rfl) rfl ?_
          refine RD.vw 47 281474976710655 kt4762 rfl kp4763 (fun _ => FV.assign rfl) rfl ?_
          refine RD.done (doneD_ok kt4762 (by kernel_rfl)) ?_
          obtain ⟨hS6365, hT6366⟩ := St.arrB hS6331 (.one (.tl (.tl (.tl .hd))) (.one (.tl (.tl (.tl .hd))) (.one (.tl (.tl (.tl .hd))) (.one (.tl (.tl (.tl .hd))) (.one (.tl (.tl (.tl (.tl .hd)))) (.one (.tl (.tl (.tl (.tl .hd)))) .done))))))
          exact hJ1797 false _ _ ⟨rfl, rfl, rfl, rfl, trivial⟩ ⟨hS6365, (Tr.trans hT6296 (Tr.trans hT6301 (Tr.trans hT6306 (Tr.trans hT6314 (Tr.trans hT6323 (Tr.trans hT6332 hT6366))))))⟩ h
         refine RD.offs 17179869183 14 [(31, 82), (32, 83), (33, 84)] (F := [(81, false)]) (U := []) kt4762 kp4763 (.cons rfl .nil) .nil ?_
         dsimp only [offS, List.map]
         refine RD.vw 34 34359738367 kt4762 rfl kp4763 (fun _ => FV.pick_f rfl rfl) rfl ?_
         refine RD.vw 35 68719476735 kt4762 rfl kp4763 (fun _ => FV.move rfl) rfl ?_
         refine RD.offs 1099511627775 8 [(36, 87), (37, 88), (38, 89), (39, 90)] (F := [(86, false)]) (U := []) kt4762 kp4763 (.cons rfl .nil) .nil ?_
         dsimp only [offS, List.map]
         refine RD.vw 40 2199023255551 kt4762 rfl kp4763 (fun _ => FV.pick_f rfl rfl) rfl ?_
         refine RD.vw 41 4398046511103 kt4762 rfl kp4763 (fun _ => FV.move rfl) rfl ?_
         refine RD.offs 70368744177663 2 [(42, 93), (43, 94), (44, 95), (45, 96)] (F := [(92, false)]) (U := []) kt4762 kp4763 (.cons rfl .nil) .nil ?_
         dsimp only [offS, List.map]
         refine RD.vw 46 140737488355327 kt4762 rfl kp4763 (fun _ => FV.pick_f rfl rfl) rfl ?_
         refine RD.vw 47 281474976710655 kt4762 rfl kp4763 (fun _ => FV.assign rfl) rfl ?_
         refine RD.done (doneD_ok kt4762 (by kernel_rfl)) ?_
         obtain ⟨hS6367, hT6368⟩ := St.arrB hS6331 (.one (.tl (.tl (.tl .hd))) (.one (.tl (.tl (.tl .hd))) (.one (.tl (.tl (.tl .hd))) (.one (.tl (.tl (.tl .hd))) (.one (.tl (.tl (.tl (.tl .hd)))) (.one (.tl (.tl (.tl (.tl .hd)))) .done))))))
         exact hJ1797 false _ _ ⟨rfl, rfl, rfl, rfl, trivial⟩ ⟨hS6367, (Tr.trans hT6296 (Tr.trans hT6301 (Tr.trans hT6306 (Tr.trans hT6314 (Tr.trans hT6323 (Tr.trans hT6332 hT6368))))))⟩ h
        refine RD.offs 536870911 19 [(26, 77), (27, 78), (28, 79)] (F := [(76, false)]) (U := []) kt4762 kp4763 (.cons rfl .nil) .nil ?_
        dsimp only [offS, List.map]
        refine RD.vw 29 1073741823 kt4762 rfl kp4763 (fun _ => FV.pick_f rfl rfl) rfl ?_
        refine RD.vw 30 2147483647 kt4762 rfl kp4763 (fun _ => FV.move rfl) rfl ?_
        refine RD.offs 17179869183 14 [(31, 82), (32, 83), (33, 84)] (F := [(81, false)]) (U := []) kt4762 kp4763 (.cons rfl .nil) .nil ?_
        dsimp only [offS, List.map]
        refine RD.vw 34 34359738367 kt4762 rfl kp4763 (fun _ => FV.pick_f rfl rfl) rfl ?_
        refine RD.vw 35 68719476735 kt4762 rfl kp4763 (fun _ => FV.move rfl) rfl ?_
        refine RD.offs 1099511627775 8 [(36, 87), (37, 88), (38, 89), (39, 90)] (F := [(86, false)]) (U := []) kt4762 kp4763 (.cons rfl .nil) .nil ?_
        dsimp only [offS, List.map]
        refine RD.vw 40 2199023255551 kt4762 rfl kp4763 (fun _ => FV.pick_f rfl rfl) rfl ?_
        refine RD.vw 41 4398046511103 kt4762 rfl kp4763 (fun _ => FV.move rfl) rfl ?_
        refine RD.offs 70368744177663 2 [(42, 93), (43, 94), (44, 95), (45, 96)] (F := [(92, false)]) (U := []) kt4762 kp4763 (.cons rfl .nil) .nil ?_
        dsimp only [offS, List.map]
        refine RD.vw 46 140737488355327 kt4762 rfl kp4763 (fun _ => FV.pick_f rfl rfl) rfl ?_
        refine RD.vw 47 281474976710655 kt4762 rfl kp4763 (fun _ => FV.assign rfl) rfl ?_
        refine RD.done (doneD_ok kt4762 (by kernel_rfl)) ?_
        obtain ⟨hS6369, hT6370⟩ := St.arrB hS6331 (.one (.tl (.tl (.tl .hd))) (.one (.tl (.tl (.tl .hd))) (.one (.tl (.tl (.tl .hd))) (.one (.tl (.tl (.tl .hd))) (.one (.tl (.tl (.tl (.tl .hd)))) (.one (.tl (.tl (.tl (.tl .hd)))) .done))))))
        exact hJ1797 false _ _ ⟨rfl, rfl, rfl, rfl, trivial⟩ ⟨hS6369, (Tr.trans hT6296 (Tr.trans hT6301 (Tr.trans hT6306 (Tr.trans hT6314 (Tr.trans hT6323 (Tr.trans hT6332 hT6370))))))⟩ h
       refine RD.offs 16777215 24 [(21, 72), (22, 73), (23, 74)] (F := [(71, false)]) (U := []) kt4762 kp4763 (.cons rfl .nil) .nil ?_
       dsimp only [offS, List.map]
       refine RD.vw 24 33554431 kt4762 rfl kp4763 (fun _ => FV.pick_f rfl rfl) rfl ?_
       refine RD.vw 25 67108863 kt4762 rfl kp4763 (fun _ => FV.move rfl) rfl ?_
       refine RD.offs 536870911 19 [(26, 77), (27, 78), (28, 79)] (F := [(76, false)]) (U := []) kt4762 kp4763 (.cons rfl .nil) .nil ?_
       dsimp only [offS, List.map]
       refine RD.vw 29 1073741823 kt4762 rfl kp4763 (fun _ => FV.pick_f rfl rfl) rfl ?_
       refine RD.vw 30 2147483647 kt4762 rfl kp4763 (fun _ => FV.move rfl) rfl ?_
       refine RD.offs 17179869183 14 [(31, 82), (32, 83), (33, 84)] (F := [(81, false)]) (U := []) kt4762 kp4763 (.cons rfl .nil) .nil ?_
       dsimp only [offS, List.map]
       refine RD.vw 34 34359738367 kt4762 rfl kp4763 (fun _ => FV.pick_f rfl rfl) rfl ?_
       refine RD.vw 35 68719476735 kt4762 rfl kp4763 (fun _ => FV.move rfl) rfl ?_
       refine RD.offs 1099511627775 8 [(36, 87), (37, 88), (38, 89), (39, 90)] (F := [(86, false)]) (U := []) kt4762 kp4763 (.cons rfl .nil) .nil ?_
       dsimp only [offS, List.map]
       refine RD.vw 40 2199023255551 kt4762 rfl kp4763 (fun _ => FV.pick_f rfl rfl) rfl ?_
       refine RD.vw 41 4398046511103 kt4762 rfl kp4763 (fun _ => FV.move rfl) rfl ?_
       refine RD.offs 70368744177663 2 [(42, 93), (43, 94), (44, 95), (45, 96)] (F := [(92, false)]) (U := []) kt4762 kp4763 (.cons rfl .nil) .nil ?_
       dsimp only [offS, List.map]
       refine RD.vw 46 140737488355327 kt4762 rfl kp4763 (fun _ => FV.pick_f rfl rfl) rfl ?_
       refine RD.vw 47 281474976710655 kt4762 rfl kp4763 (fun _ => FV.assign rfl) rfl ?_
       refine RD.done (doneD_ok kt4762 (by kernel_rfl)) ?_
       obtain ⟨hS6371, hT6372⟩ := St.arrB hS6331 (.one (.tl (.tl (.tl .hd))) (.one (.tl (.tl (.tl .hd))) (.one (.tl (.tl (.tl .hd))) (.one (.tl (.tl (.tl .hd))) (.one (.tl (.tl (.tl (.tl .hd)))) (.one (.tl (.tl (.tl (.tl .hd)))) .done))))))
       exact hJ1797 false _ _ ⟨rfl, rfl, rfl, rfl, trivial⟩ ⟨hS6371, (Tr.trans hT6296 (Tr.trans hT6301 (Tr.trans hT6306 (Tr.trans hT6314 (Tr.trans hT6323 (Tr.trans hT6332 hT6372))))))⟩ h
      refine RD.offs 524287 29 [(15, 66), (16, 67), (17, 68), (18, 69)] (F := [(65, false)]) (U := []) kt4762 kp4763 (.cons rfl .nil) .nil ?_
      dsimp only [offS, List.map]
      refine RD.vw 19 1048575 kt4762 rfl kp4763 (fun _ => FV.pick_f rfl rfl) rfl ?_
      refine RD.vw 20 2097151 kt4762 rfl kp4763 (fun _ => FV.move rfl) rfl ?_
      refine RD.offs 16777215 24 [(21, 72), (22, 73), (23, 74)] (F := [(71, false)]) (U := []) kt4762 kp4763 (.cons rfl .nil) .nil ?_
      dsimp only [offS, List.map]
      refine RD.vw 24 33554431 kt4762 rfl kp4763 (fun _ => FV.pick_f rfl rfl) rfl ?_
      refine RD.vw 25 67108863 kt4762 rfl kp4763 (fun _ => FV.move rfl) rfl ?_
      refine RD.offs 536870911 19 [(26, 77), (27, 78), (28, 79)] (F := [(76, false)]) (U := []) kt4762 kp4763 (.cons rfl .nil) .nil ?_
      dsimp only [offS, List.map]
      refine RD.vw 29 1073741823 kt4762 rfl kp4763 (fun _ => FV.pick_f rfl rfl) rfl ?_
      refine RD.vw 30 2147483647 kt4762 rfl kp4763 (fun _ => FV.move rfl) rfl ?_
      refine RD.offs 17179869183 14 [(31, 82), (32, 83), (33, 84)] (F := [(81, false)]) (U := []) kt4762 kp4763 (.cons rfl .nil) .nil ?_
      dsimp only [offS, List.map]
      refine RD.vw 34 34359738367 kt4762 rfl kp4763 (fun _ => FV.pick_f rfl rfl) rfl ?_
      refine RD.vw 35 68719476735 kt4762 rfl kp4763 (fun _ => FV.move rfl) rfl ?_
      refine RD.offs 1099511627775 8 [(36, 87), (37, 88), (38, 89), (39, 90)] (F := [(86, false)]) (U := []) kt4762 kp4763 (.cons rfl .nil) .nil ?_
      dsimp only [offS, List.map]
      refine RD.vw 40 2199023255551 kt4762 rfl kp4763 (fun _ => FV.pick_f rfl rfl) rfl ?_
      refine RD.vw 41 4398046511103 kt4762 rfl kp4763 (fun _ => FV.move rfl) rfl ?_
      refine RD.offs 70368744177663 2 [(42, 93), (43, 94), (44, 95), (45, 96)] (F := [(92, false)]) (U := []) kt4762 kp4763 (.cons rfl .nil) .nil ?_
      dsimp only [offS, List.map]
      refine RD.vw 46 140737488355327 kt4762 rfl kp4763 (fun _ => FV.pick_f rfl rfl) rfl ?_
      refine RD.vw 47 281474976710655 kt4762 rfl kp4763 (fun _ => FV.assign rfl) rfl ?_
      refine RD.done (doneD_ok kt4762 (by kernel_rfl)) ?_
      obtain ⟨hS6373, hT6374⟩ := St.arrB hS6322 (.one (.tl (.tl .hd)) (.one (.tl (.tl .hd)) (.one (.tl (.tl .hd)) (.one (.tl (.tl .hd)) (.one (.tl (.tl (.tl .hd))) (.one (.tl (.tl (.tl .hd))) .done))))))
      exact hJ1797 false _ _ ⟨rfl, rfl, rfl, rfl, trivial⟩ ⟨hS6373, (Tr.trans hT6296 (Tr.trans hT6301 (Tr.trans hT6306 (Tr.trans hT6314 (Tr.trans hT6323 hT6374)))))⟩ h
     refine RD.offs 8191 35 [(9, 60), (10, 61), (11, 62), (12, 63)] (F := [(59, false)]) (U := []) kt4762 kp4763 (.cons rfl .nil) .nil ?_
     dsimp only [offS, List.map]
     refine RD.vw 13 16383 kt4762 rfl kp4763 (fun _ => FV.pick_f rfl rfl) rfl ?_
     refine RD.vw 14 32767 kt4762 rfl kp4763 (fun _ => FV.move rfl) rfl ?_
     refine RD.offs 524287 29 [(15, 66), (16, 67), (17, 68), (18, 69)] (F := [(65, false)]) (U := []) kt4762 kp4763 (.cons rfl .nil) .nil ?_
     dsimp only [offS, List.map]
     refine RD.vw 19 1048575 kt4762 rfl kp4763 (fun _ => FV.pick_f rfl rfl) rfl ?_
     refine RD.vw 20 2097151 kt4762 rfl kp4763 (fun _ => FV.move rfl) rfl ?_
     refine RD.offs 16777215 24 [(21, 72), (22, 73), (23, 74)] (F := [(71, false)]) (U := []) kt4762 kp4763 (.cons rfl .nil) .nil ?_
     dsimp only [offS, List.map]
     refine RD.vw 24 33554431 kt4762 rfl kp4763 (fun _ => FV.pick_f rfl rfl) rfl ?_
     refine RD.vw 25 67108863 kt4762 rfl kp4763 (fun _ => FV.move rfl) rfl ?_
     refine RD.offs 536870911 19 [(26, 77), (27, 78), (28, 79)] (F := [(76, false)]) (U := []) kt4762 kp4763 (.cons rfl .nil) .nil ?_
     dsimp only [offS, List.map]
     refine RD.vw 29 1073741823 kt4762 rfl kp4763 (fun _ => FV.pick_f rfl rfl) rfl ?_
     refine RD.vw 30 2147483647 kt4762 rfl kp4763 (fun _ => FV.move rfl) rfl ?_
     refine RD.offs 17179869183 14 [(31, 82), (32, 83), (33, 84)] (F := [(81, false)]) (U := []) kt4762 kp4763 (.cons rfl .nil) .nil ?_
     dsimp only [offS, List.map]
     refine RD.vw 34 34359738367 kt4762 rfl kp4763 (fun _ => FV.pick_f rfl rfl) rfl ?_
     refine RD.vw 35 68719476735 kt4762 rfl kp4763 (fun _ => FV.move rfl) rfl ?_
     refine RD.offs 1099511627775 8 [(36, 87), (37, 88), (38, 89), (39, 90)] (F := [(86, false)]) (U := []) kt4762 kp4763 (.cons rfl .nil) .nil ?_
     dsimp only [offS, List.map]
     refine RD.vw 40 2199023255551 kt4762 rfl kp4763 (fun _ => FV.pick_f rfl rfl) rfl ?_
     refine RD.vw 41 4398046511103 kt4762 rfl kp4763 (fun _ => FV.move rfl) rfl ?_
     refine RD.offs 70368744177663 2 [(42, 93), (43, 94), (44, 95), (45, 96)] (F := [(92, false)]) (U := []) kt4762 kp4763 (.cons rfl .nil) .nil ?_
     dsimp only [offS, List.map]
     refine RD.vw 46 140737488355327 kt4762 rfl kp4763 (fun _ => FV.pick_f rfl rfl) rfl ?_
     refine RD.vw 47 281474976710655 kt4762 rfl kp4763 (fun _ => FV.assign rfl) rfl ?_
     refine RD.done (doneD_ok kt4762 (by kernel_rfl)) ?_
     obtain ⟨hS6375, hT6376⟩ := St.arrB hS6313 (.one (.tl .hd) (.one (.tl .hd) (.one (.tl .hd) (.one (.tl .hd) (.one (.tl (.tl .hd)) (.one (.tl (.tl .hd)) .done))))))
     exact hJ1797 false _ _ ⟨rfl, rfl, rfl, rfl, trivial⟩ ⟨hS6375, (Tr.trans hT6296 (Tr.trans hT6301 (Tr.trans hT6306 (Tr.trans hT6314 hT6376))))⟩ h
    ·skip
     intro hJ6377
     refine RD.each [0, 3] (readyD_ok kt4762 (by kernel_rfl)) ⟨?_, ?_, trivial⟩
     ·skip
      refine RO.new (m' := 5) (stepC_ok kt4762 (by kernel_rfl)) rfl .plain rfl (Does.build (α := Int) (xs := ([(60 : Int), (40 : Int)] : List Int)) (vs := [.int .i64 60, .int .i64 40]) (ds' := [.int .i64 60, .int .i64 40]) rfl hS178 el45 rfl (evs_cons rfl (evs_cons rfl evs_nil)) (by kernel_rfl) rfl) (fun w5065 b5068 hS5066 hT5067 => ?_)
      have hc5069 := Cells.at_ (cs := [.int .i64 60, .int .i64 40]) (xs := (([(60 : Int), (40 : Int)] : List Int) : List Int)) hS5066 L (Cells.cons (cs := [.int .i64 60]) (ds := [.int .i64 40]) rfl (Cells.cons (cs := [.int .i64 40]) (ds := []) rfl (Cells.nil _ _)))
      refine RD.each [1, 3] (readyD_ok kt4762 (by kernel_rfl)) ⟨?_, ?_, trivial⟩
      ·skip
       have hr5370 := St.freeze (α := Int) hS5066 .hd hc5069 hL
       have hS5371 := St.delS hS5066 .hd
       have hT5372 := St.delT hS5066 .hd
       have hr5373 := Rep.at_ (α := Int) (v := (.slice (some ⟨b5068, 0, none⟩) 2 2)) (xs := ([(60 : Int), (40 : Int)] : List Int)) hS5371 L hr5370
       refine RO.call (m' := 7) (fst := []) (cap := []) (stepC_ok kt4762 (by kernel_rfl)) rfl .plain body37 rfl (evs_cons rfl evs_nil) (fun w9 hw9 => Calls.gives (wardmotelaw22_is_c n _ w9 (hS5371.hL hL hw9) ([(60 : Int), (40 : Int)] : List Int) (Rep.keep0 hr5373 hw9)) fun (w8 : World) (u8 : Value) ⟨b0_, hu_, s_⟩ => (⟨b0_, hu_, s_.from hw9⟩ : ∃ b5375 : Nat, u8 = Value.func (.func 91) #[] #[.pointer (some ⟨b5375, 0, none⟩)] ∧ St w5065 w8 [.cells b5375 [(.slice (some ⟨b5068, 0, none⟩) 2 2)] 45])) rfl (fun w5376 vu5377 hag5378 ⟨b5375, hu5380, s5379⟩ => ?_)
       subst hu5380
       have hS5381 : St w w5376 [.cells b5375 [(.slice (some ⟨b5068, 0, none⟩) 2 2)] 45, .cells b176 [.int .i64 0, .int .i64 0, .int .i64 0, (.slice (some ⟨b158, 0, none⟩) 2 2)] 44, .row w.heap.size 65 (Rep.size TUnit) (.slice (some ⟨b158, 0, none⟩) 2 2) (([(⟨⟨#[120]⟩, (0 : Int), ([] : List Int), ([] : List Int), ([] : List Int), false⟩ : TUnit), (⟨⟨#[121]⟩, (0 : Int), ([] : List Int), ([] : List Int), ([] : List Int), false⟩ : TUnit)] : List TUnit).length) [.string ⟨#[120]⟩, .int .i64 0, .slice none 0 0, .slice none 0 0, .slice none 0 0, .bool false, .string ⟨#[121]⟩, .int .i64 0, .slice none 0 0, .slice none 0 0, .slice none 0 0, .bool false], .cells b95 [.int .i64 y78.fGroups, .int .i64 y78.fParties, .int .i64 y78.fLevels, v86] 44, .row w.heap.size 65 (Rep.size TUnit) v86 xs130.length cs135, .row w.heap.size 65 (Rep.size TUnit) (.slice (some ⟨b58, 0, none⟩) 1 1) (([(⟨⟨#[115, 101, 97]⟩, (0 : Int), ([] : List Int), ([] : List Int), ([] : List Int), true⟩ : TUnit)] : List TUnit).length) [.string ⟨#[115, 101, 97]⟩, .int .i64 0, .slice none 0 0, .slice none 0 0, .slice none 0 0, .bool true], .cells b41 [.int .i64 y24.fGroups, .int .i64 y24.fParties, .int .i64 y24.fLevels, v73] 44, .row w.heap.size 65 (Rep.size TUnit) v73 xs66.length cs72, .cells b20 [.int .i64 y3.fGroups, .int .i64 y3.fParties, .int .i64 y3.fLevels, v11] 44, .row w.heap.size 65 (Rep.size TUnit) v11 y3.fUnits.length cs12] := St.merge hS5371 s5379
       have hT5382 : Tr w5065 [.cells b176 [.int .i64 0, .int .i64 0, .int .i64 0, (.slice (some ⟨b158, 0, none⟩) 2 2)] 44, .row w.heap.size 65 (Rep.size TUnit) (.slice (some ⟨b158, 0, none⟩) 2 2) (([(⟨⟨#[120]⟩, (0 : Int), ([] : List Int), ([] : List Int), ([] : List Int), false⟩ : TUnit), (⟨⟨#[121]⟩, (0 : Int), ([] : List Int), ([] : List Int), ([] : List Int), false⟩ : TUnit)] : List TUnit).length) [.string ⟨#[120]⟩, .int .i64 0, .slice none 0 0, .slice none 0 0, .slice none 0 0, .bool false, .string ⟨#[121]⟩, .int .i64 0, .slice none 0 0, .slice none 0 0, .slice none 0 0, .bool false], .cells b95 [.int .i64 y78.fGroups, .int .i64 y78.fParties, .int .i64 y78.fLevels, v86] 44, .row w.heap.size 65 (Rep.size TUnit) v86 xs130.length cs135, .row w.heap.size 65 (Rep.size TUnit) (.slice (some ⟨b58, 0, none⟩) 1 1) (([(⟨⟨#[115, 101, 97]⟩, (0 : Int), ([] : List Int), ([] : List Int), ([] : List Int), true⟩ : TUnit)] : List TUnit).length) [.string ⟨#[115, 101, 97]⟩, .int .i64 0, .slice none 0 0, .slice none 0 0, .slice none 0 0, .bool true], .cells b41 [.int .i64 y24.fGroups, .int .i64 y24.fParties, .int .i64 y24.fLevels, v73] 44, .row w.heap.size 65 (Rep.size TUnit) v73 xs66.length cs72, .cells b20 [.int .i64 y3.fGroups, .int .i64 y3.fParties, .int .i64 y3.fLevels, v11] 44, .row w.heap.size 65 (Rep.size TUnit) v11 y3.fUnits.length cs12] w5376 [.cells b5375 [(.slice (some ⟨b5068, 0, none⟩) 2 2)] 45, .cells b176 [.int .i64 0, .int .i64 0, .int .i64 0, (.slice (some ⟨b158, 0, none⟩) 2 2)] 44, .row w.heap.size 65 (Rep.size TUnit) (.slice (some ⟨b158, 0, none⟩) 2 2) (([(⟨⟨#[120]⟩, (0 : Int), ([] : List Int), ([] : List Int), ([] : List Int), false⟩ : TUnit), (⟨⟨#[121]⟩, (0 : Int), ([] : List Int), ([] : List Int), ([] : List Int), false⟩ : TUnit)] : List TUnit).length) [.string ⟨#[120]⟩, .int .i64 0, .slice none 0 0, .slice none 0 0, .slice none 0 0, .bool false, .string ⟨#[121]⟩, .int .i64 0, .slice none 0 0, .slice none 0 0, .slice none 0 0, .bool false], .cells b95 [.int .i64 y78.fGroups, .int .i64 y78.fParties, .int .i64 y78.fLevels, v86] 44, .row w.heap.size 65 (Rep.size TUnit) v86 xs130.length cs135, .row w.heap.size 65 (Rep.size TUnit) (.slice (some ⟨b58, 0, none⟩) 1 1) (([(⟨⟨#[115, 101, 97]⟩, (0 : Int), ([] : List Int), ([] : List Int), ([] : List Int), true⟩ : TUnit)] : List TUnit).length) [.string ⟨#[115, 101, 97]⟩, .int .i64 0, .slice none 0 0, .slice none 0 0, .slice none 0 0, .bool true], .cells b41 [.int .i64 y24.fGroups, .int .i64 y24.fParties, .int .i64 y24.fLevels, v73] 44, .row w.heap.size 65 (Rep.size TUnit) v73 xs66.length cs72, .cells b20 [.int .i64 y3.fGroups, .int .i64 y3.fParties, .int .i64 y3.fLevels, v11] 44, .row w.heap.size 65 (Rep.size TUnit) v11 y3.fUnits.length cs12] := Tr.merge hS5371 s5379
       refine RD.nu 3 15 kt4762 rfl .plain rfl (Does.build (α := Int) (xs := ([(0 : Int), (0 : Int), (0 : Int), (1 : Int)] : List Int)) (vs := [.int .i64 0, .int .i64 0, .int .i64 0, .int .i64 1]) (ds' := [.int .i64 0, .int .i64 0, .int .i64 0, .int .i64 1]) rfl hS5381 el46 rfl (evs_cons rfl (evs_cons rfl (evs_cons rfl (evs_cons rfl evs_nil)))) (by kernel_rfl) rfl) (fun w5684 b5687 hS5685 hT5686 => ?_)
       have hc5688 := Cells.at_ (cs := [.int .i64 0, .int .i64 0, .int .i64 0, .int .i64 1]) (xs := (([(0 : Int), (0 : Int), (0 : Int), (1 : Int)] : List Int) : List Int)) hS5685 L (Cells.cons (cs := [.int .i64 0]) (ds := [.int .i64 0, .int .i64 0, .int .i64 1]) rfl (Cells.cons (cs := [.int .i64 0]) (ds := [.int .i64 0, .int .i64 1]) rfl (Cells.cons (cs := [.int .i64 0]) (ds := [.int .i64 1]) rfl (Cells.cons (cs := [.int .i64 1]) (ds := []) rfl (Cells.nil _ _)))))
       obtain ⟨hS6378, hT6379⟩ := St.arrB hS5685 (.one .hd (.one .hd (.one .hd (.one .hd (.one .hd (.one .hd (.one (.tl .hd) (.one (.tl .hd) (.one (.tl .hd) (.one (.tl .hd) .done))))))))))
       have hm6380 := Cells.mv hc5688 hT6379
       have hm6381 := Rep.mv hr5373 (Tr.trans hT5382 (Tr.trans hT5686 hT6379))
       exact hJ6377 ((.slice (some ⟨b5687, 0, none⟩) 4 4), [.int .i64 0, .int .i64 0, .int .i64 0, .int .i64 1], (.slice (some ⟨b5068, 0, none⟩) 2 2), b5375) _ _ ⟨rfl, rfl, rfl, rfl, rfl, rfl, rfl, trivial⟩ ⟨hS6378, (Tr.trans hT5067 (Tr.trans hT5372 (Tr.trans hT5382 (Tr.trans hT5686 hT6379)))), hm6380, hm6381⟩
      ·skip
       refine RO.new (m' := 13) (stepC_ok kt4762 (by kernel_rfl)) rfl .plain rfl (Does.build (α := Int) (xs := ([(0 : Int), (0 : Int), (0 : Int), (1 : Int)] : List Int)) (vs := [.int .i64 0, .int .i64 0, .int .i64 0, .int .i64 1]) (ds' := [.int .i64 0, .int .i64 0, .int .i64 0, .int .i64 1]) rfl hS5066 el46 rfl (evs_cons rfl (evs_cons rfl (evs_cons rfl (evs_cons rfl evs_nil)))) (by kernel_rfl) rfl) (fun w5684 b5687 hS5685 hT5686 => ?_)
       have hc5688 := Cells.at_ (cs := [.int .i64 0, .int .i64 0, .int .i64 0, .int .i64 1]) (xs := (([(0 : Int), (0 : Int), (0 : Int), (1 : Int)] : List Int) : List Int)) hS5685 L (Cells.cons (cs := [.int .i64 0]) (ds := [.int .i64 0, .int .i64 0, .int .i64 1]) rfl (Cells.cons (cs := [.int .i64 0]) (ds := [.int .i64 0, .int .i64 1]) rfl (Cells.cons (cs := [.int .i64 0]) (ds := [.int .i64 1]) rfl (Cells.cons (cs := [.int .i64 1]) (ds := []) rfl (Cells.nil _ _)))))
       have hm5373 := Cells.mv hc5069 hT5686
       have hr5370 := St.freeze (α := Int) hS5685 (.tl .hd) hm5373 hL
       have hS5371 := St.delS hS5685 (.tl .hd)
       have hT5372 := St.delT hS5685 (.tl .hd)
       have hr5374 := Rep.at_ (α := Int) (v := (.slice (some ⟨b5068, 0, none⟩) 2 2)) (xs := ([(60 : Int), (40 : Int)] : List Int)) hS5371 L hr5370
       refine RD.cl 1 15 kt4762 rfl .plain body37 rfl (evs_cons rfl evs_nil) (fun w9 hw9 => Calls.gives (wardmotelaw22_is_c n _ w9 (hS5371.hL hL hw9) ([(60 : Int), (40 : Int)] : List Int) (Rep.keep0 hr5374 hw9)) fun (w8 : World) (u8 : Value) ⟨b0_, hu_, s_⟩ => (⟨b0_, hu_, s_.from hw9⟩ : ∃ b5376 : Nat, u8 = Value.func (.func 91) #[] #[.pointer (some ⟨b5376, 0, none⟩)] ∧ St w5684 w8 [.cells b5376 [(.slice (some ⟨b5068, 0, none⟩) 2 2)] 45])) rfl (fun w5377 vu5378 hag5379 ⟨b5376, hu5381, s5380⟩ => ?_)
       subst hu5381
       have hS5382 : St w w5377 [.cells b5376 [(.slice (some ⟨b5068, 0, none⟩) 2 2)] 45, .row w.heap.size 3 (Rep.size Int) (.slice (some ⟨b5687, 0, none⟩) 4 4) (([(0 : Int), (0 : Int), (0 : Int), (1 : Int)] : List Int).length) [.int .i64 0, .int .i64 0, .int .i64 0, .int .i64 1], .cells b176 [.int .i64 0, .int .i64 0, .int .i64 0, (.slice (some ⟨b158, 0, none⟩) 2 2)] 44, .row w.heap.size 65 (Rep.size TUnit) (.slice (some ⟨b158, 0, none⟩) 2 2) (([(⟨⟨#[120]⟩, (0 : Int), ([] : List Int), ([] : List Int), ([] : List Int), false⟩ : TUnit), (⟨⟨#[121]⟩, (0 : Int), ([] : List Int), ([] : List Int), ([] : List Int), false⟩ : TUnit)] : List TUnit).length) [.string ⟨#[120]⟩, .int .i64 0, .slice none 0 0, .slice none 0 0, .slice none 0 0, .bool false, .string ⟨#[121]⟩, .int .i64 0, .slice none 0 0, .slice none 0 0, .slice none 0 0, .bool false], .cells b95 [.int .i64 y78.fGroups, .int .i64 y78.fParties, .int .i64 y78.fLevels, v86] 44, .row w.heap.size 65 (Rep.size TUnit) v86 xs130.length cs135, .row w.heap.size 65 (Rep.size TUnit) (.slice (some ⟨b58, 0, none⟩) 1 1) (([(⟨⟨#[115, 101, 97]⟩, (0 : Int), ([] : List Int), ([] : List Int), ([] : List Int), true⟩ : TUnit)] : List TUnit).length) [.string ⟨#[115, 101, 97]⟩, .int .i64 0, .slice none 0 0, .slice none 0 0, .slice none 0 0, .bool true], .cells b41 [.int .i64 y24.fGroups, .int .i64 y24.fParties, .int .i64 y24.fLevels, v73] 44, .row w.heap.size 65 (Rep.size TUnit) v73 xs66.length cs72, .cells b20 [.int .i64 y3.fGroups, .int .i64 y3.fParties, .int .i64 y3.fLevels, v11] 44, .row w.heap.size 65 (Rep.size TUnit) v11 y3.fUnits.length cs12] := St.merge hS5371 s5380
       have hT5383 : Tr w5684 [.row w.heap.size 3 (Rep.size Int) (.slice (some ⟨b5687, 0, none⟩) 4 4) (([(0 : Int), (0 : Int), (0 : Int), (1 : Int)] : List Int).length) [.int .i64 0, .int .i64 0, .int .i64 0, .int .i64 1], .cells b176 [.int .i64 0, .int .i64 0, .int .i64 0, (.slice (some ⟨b158, 0, none⟩) 2 2)] 44, .row w.heap.size 65 (Rep.size TUnit) (.slice (some ⟨b158, 0, none⟩) 2 2) (([(⟨⟨#[120]⟩, (0 : Int), ([] : List Int), ([] : List Int), ([] : List Int), false⟩ : TUnit), (⟨⟨#[121]⟩, (0 : Int), ([] : List Int), ([] : List Int), ([] : List Int), false⟩ : TUnit)] : List TUnit).length) [.string ⟨#[120]⟩, .int .i64 0, .slice none 0 0, .slice none 0 0, .slice none 0 0, .bool false, .string ⟨#[121]⟩, .int .i64 0, .slice none 0 0, .slice none 0 0, .slice none 0 0, .bool false], .cells b95 [.int .i64 y78.fGroups, .int .i64 y78.fParties, .int .i64 y78.fLevels, v86] 44, .row w.heap.size 65 (Rep.size TUnit) v86 xs130.length cs135, .row w.heap.size 65 (Rep.size TUnit) (.slice (some ⟨b58, 0, none⟩) 1 1) (([(⟨⟨#[115, 101, 97]⟩, (0 : Int), ([] : List Int), ([] : List Int), ([] : List Int), true⟩ : TUnit)] : List TUnit).length) [.string ⟨#[115, 101, 97]⟩, .int .i64 0, .slice none 0 0, .slice none 0 0, .slice none 0 0, .bool true], .cells b41 [.int .i64 y24.fGroups, .int .i64 y24.fParties, .int .i64 y24.fLevels, v73] 44, .row w.heap.size 65 (Rep.size TUnit) v73 xs66.length cs72, .cells b20 [.int .i64 y3.fGroups, .int .i64 y3.fParties, .int .i64 y3.fLevels, v11] 44, .row w.heap.size 65 (Rep.size TUnit) v11 y3.fUnits.length cs12] w5377 [.cells b5376 [(.slice (some ⟨b5068, 0, none⟩) 2 2)] 45, .row w.heap.size 3 (Rep.size Int) (.slice (some ⟨b5687, 0, none⟩) 4 4) (([(0 : Int), (0 : Int), (0 : Int), (1 : Int)] : List Int).length) [.int .i64 0, .int .i64 0, .int .i64 0, .int .i64 1], .cells b176 [.int .i64 0, .int .i64 0, .int .i64 0, (.slice (some ⟨b158, 0, none⟩) 2 2)] 44, .row w.heap.size 65 (Rep.size TUnit) (.slice (some ⟨b158, 0, none⟩) 2 2) (([(⟨⟨#[120]⟩, (0 : Int), ([] : List Int), ([] : List Int), ([] : List Int), false⟩ : TUnit), (⟨⟨#[121]⟩, (0 : Int), ([] : List Int), ([] : List Int), ([] : List Int), false⟩ : TUnit)] : List TUnit).length) [.string ⟨#[120]⟩, .int .i64 0, .slice none 0 0, .slice none 0 0, .slice none 0 0, .bool false, .string ⟨#[121]⟩, .int .i64 0, .slice none 0 0, .slice none 0 0, .slice none 0 0, .bool false], .cells b95 [.int .i64 y78.fGroups, .int .i64 y78.fParties, .int .i64 y78.fLevels, v86] 44, .row w.heap.size 65 (Rep.size TUnit) v86 xs130.length cs135, .row w.heap.size 65 (Rep.size TUnit) (.slice (some ⟨b58, 0, none⟩) 1 1) (([(⟨⟨#[115, 101, 97]⟩, (0 : Int), ([] : List Int), ([] : List Int), ([] : List Int), true⟩ : TUnit)] : List TUnit).length) [.string ⟨#[115, 101, 97]⟩, .int .i64 0, .slice none 0 0, .slice none 0 0, .slice none 0 0, .bool true], .cells b41 [.int .i64 y24.fGroups, .int .i64 y24.fParties, .int .i64 y24.fLevels, v73] 44, .row w.heap.size 65 (Rep.size TUnit) v73 xs66.length cs72, .cells b20 [.int .i64 y3.fGroups, .int .i64 y3.fParties, .int .i64 y3.fLevels, v11] 44, .row w.heap.size 65 (Rep.size TUnit) v11 y3.fUnits.length cs12] := Tr.merge hS5371 s5380
       obtain ⟨hS6382, hT6383⟩ := St.arrB hS5382 (.one (.tl .hd) (.one .hd (.one .hd (.one .hd (.one .hd (.one .hd (.one (.tl .hd) (.one (.tl .hd) (.one (.tl .hd) (.one (.tl .hd) .done))))))))))
       have hm6384 := Cells.mv hc5688 (Tr.trans hT5372 (Tr.trans hT5383 hT6383))
       have hm6385 := Rep.mv hr5374 (Tr.trans hT5383 hT6383)
       exact hJ6377 ((.slice (some ⟨b5687, 0, none⟩) 4 4), [.int .i64 0, .int .i64 0, .int .i64 0, .int .i64 1], (.slice (some ⟨b5068, 0, none⟩) 2 2), b5376) _ _ ⟨rfl, rfl, rfl, rfl, rfl, rfl, rfl, trivial⟩ ⟨hS6382, (Tr.trans hT5067 (Tr.trans hT5686 (Tr.trans hT5372 (Tr.trans hT5383 hT6383)))), hm6384, hm6385⟩
     ·skip
      refine RO.new (m' := 12) (stepC_ok kt4762 (by kernel_rfl)) rfl .plain rfl (Does.build (α := Int) (xs := ([(0 : Int), (0 : Int), (0 : Int), (1 : Int)] : List Int)) (vs := [.int .i64 0, .int .i64 0, .int .i64 0, .int .i64 1]) (ds' := [.int .i64 0, .int .i64 0, .int .i64 0, .int .i64 1]) rfl hS178 el46 rfl (evs_cons rfl (evs_cons rfl (evs_cons rfl (evs_cons rfl evs_nil)))) (by kernel_rfl) rfl) (fun w5684 b5687 hS5685 hT5686 => ?_)
      have hc5688 := Cells.at_ (cs := [.int .i64 0, .int .i64 0, .int .i64 0, .int .i64 1]) (xs := (([(0 : Int), (0 : Int), (0 : Int), (1 : Int)] : List Int) : List Int)) hS5685 L (Cells.cons (cs := [.int .i64 0]) (ds := [.int .i64 0, .int .i64 0, .int .i64 1]) rfl (Cells.cons (cs := [.int .i64 0]) (ds := [.int .i64 0, .int .i64 1]) rfl (Cells.cons (cs := [.int .i64 0]) (ds := [.int .i64 1]) rfl (Cells.cons (cs := [.int .i64 1]) (ds := []) rfl (Cells.nil _ _)))))
      refine RD.nu 0 13 kt4762 rfl .plain rfl (Does.build (α := Int) (xs := ([(60 : Int), (40 : Int)] : List Int)) (vs := [.int .i64 60, .int .i64 40]) (ds' := [.int .i64 60, .int .i64 40]) rfl hS5685 el45 rfl (evs_cons rfl (evs_cons rfl evs_nil)) (by kernel_rfl) rfl) (fun w5065 b5068 hS5066 hT5067 => ?_)
      have hc5069 := Cells.at_ (cs := [.int .i64 60, .int .i64 40]) (xs := (([(60 : Int), (40 : Int)] : List Int) : List Int)) hS5066 L (Cells.cons (cs := [.int .i64 60]) (ds := [.int .i64 40]) rfl (Cells.cons (cs := [.int .i64 40]) (ds := []) rfl (Cells.nil _ _)))
      have hr5370 := St.freeze (α := Int) hS5066 .hd hc5069 hL
      have hS5371 := St.delS hS5066 .hd
      have hT5372 := St.delT hS5066 .hd
      have hr5373 := Rep.at_ (α := Int) (v := (.slice (some ⟨b5068, 0, none⟩) 2 2)) (xs := ([(60 : Int), (40 : Int)] : List Int)) hS5371 L hr5370
      refine RD.cl 1 15 kt4762 rfl .plain body37 rfl (evs_cons rfl evs_nil) (fun w9 hw9 => Calls.gives (wardmotelaw22_is_c n _ w9 (hS5371.hL hL hw9) ([(60 : Int), (40 : Int)] : List Int) (Rep.keep0 hr5373 hw9)) fun (w8 : World) (u8 : Value) ⟨b0_, hu_, s_⟩ => (⟨b0_, hu_, s_.from hw9⟩ : ∃ b5375 : Nat, u8 = Value.func (.func 91) #[] #[.pointer (some ⟨b5375, 0, none⟩)] ∧ St w5065 w8 [.cells b5375 [(.slice (some ⟨b5068, 0, none⟩) 2 2)] 45])) rfl (fun w5376 vu5377 hag5378 ⟨b5375, hu5380, s5379⟩ => ?_)
      subst hu5380
      have hS5381 : St w w5376 [.cells b5375 [(.slice (some ⟨b5068, 0, none⟩) 2 2)] 45, .row w.heap.size 3 (Rep.size Int) (.slice (some ⟨b5687, 0, none⟩) 4 4) (([(0 : Int), (0 : Int), (0 : Int), (1 : Int)] : List Int).length) [.int .i64 0, .int .i64 0, .int .i64 0, .int .i64 1], .cells b176 [.int .i64 0, .int .i64 0, .int .i64 0, (.slice (some ⟨b158, 0, none⟩) 2 2)] 44, .row w.heap.size 65 (Rep.size TUnit) (.slice (some ⟨b158, 0, none⟩) 2 2) (([(⟨⟨#[120]⟩, (0 : Int), ([] : List Int), ([] : List Int), ([] : List Int), false⟩ : TUnit), (⟨⟨#[121]⟩, (0 : Int), ([] : List Int), ([] : List Int), ([] : List Int), false⟩ : TUnit)] : List TUnit).length) [.string ⟨#[120]⟩, .int .i64 0, .slice none 0 0, .slice none 0 0, .slice none 0 0, .bool false, .string ⟨#[121]⟩, .int .i64 0, .slice none 0 0, .slice none 0 0, .slice none 0 0, .bool false], .cells b95 [.int .i64 y78.fGroups, .int .i64 y78.fParties, .int .i64 y78.fLevels, v86] 44, .row w.heap.size 65 (Rep.size TUnit) v86 xs130.length cs135, .row w.heap.size 65 (Rep.size TUnit) (.slice (some ⟨b58, 0, none⟩) 1 1) (([(⟨⟨#[115, 101, 97]⟩, (0 : Int), ([] : List Int), ([] : List Int), ([] : List Int), true⟩ : TUnit)] : List TUnit).length) [.string ⟨#[115, 101, 97]⟩, .int .i64 0, .slice none 0 0, .slice none 0 0, .slice none 0 0, .bool true], .cells b41 [.int .i64 y24.fGroups, .int .i64 y24.fParties, .int .i64 y24.fLevels, v73] 44, .row w.heap.size 65 (Rep.size TUnit) v73 xs66.length cs72, .cells b20 [.int .i64 y3.fGroups, .int .i64 y3.fParties, .int .i64 y3.fLevels, v11] 44, .row w.heap.size 65 (Rep.size TUnit) v11 y3.fUnits.length cs12] := St.merge hS5371 s5379
      have hT5382 : Tr w5065 [.row w.heap.size 3 (Rep.size Int) (.slice (some ⟨b5687, 0, none⟩) 4 4) (([(0 : Int), (0 : Int), (0 : Int), (1 : Int)] : List Int).length) [.int .i64 0, .int .i64 0, .int .i64 0, .int .i64 1], .cells b176 [.int .i64 0, .int .i64 0, .int .i64 0, (.slice (some ⟨b158, 0, none⟩) 2 2)] 44, .row w.heap.size 65 (Rep.size TUnit) (.slice (some ⟨b158, 0, none⟩) 2 2) (([(⟨⟨#[120]⟩, (0 : Int), ([] : List Int), ([] : List Int), ([] : List Int), false⟩ : TUnit), (⟨⟨#[121]⟩, (0 : Int), ([] : List Int), ([] : List Int), ([] : List Int), false⟩ : TUnit)] : List TUnit).length) [.string ⟨#[120]⟩, .int .i64 0, .slice none 0 0, .slice none 0 0, .slice none 0 0, .bool false, .string ⟨#[121]⟩, .int .i64 0, .slice none 0 0, .slice none 0 0, .slice none 0 0, .bool false], .cells b95 [.int .i64 y78.fGroups, .int .i64 y78.fParties, .int .i64 y78.fLevels, v86] 44, .row w.heap.size 65 (Rep.size TUnit) v86 xs130.length cs135, .row w.heap.size 65 (Rep.size TUnit) (.slice (some ⟨b58, 0, none⟩) 1 1) (([(⟨⟨#[115, 101, 97]⟩, (0 : Int), ([] : List Int), ([] : List Int), ([] : List Int), true⟩ : TUnit)] : List TUnit).length) [.string ⟨#[115, 101, 97]⟩, .int .i64 0, .slice none 0 0, .slice none 0 0, .slice none 0 0, .bool true], .cells b41 [.int .i64 y24.fGroups, .int .i64 y24.fParties, .int .i64 y24.fLevels, v73] 44, .row w.heap.size 65 (Rep.size TUnit) v73 xs66.length cs72, .cells b20 [.int .i64 y3.fGroups, .int .i64 y3.fParties, .int .i64 y3.fLevels, v11] 44, .row w.heap.size 65 (Rep.size TUnit) v11 y3.fUnits.length cs12] w5376 [.cells b5375 [(.slice (some ⟨b5068, 0, none⟩) 2 2)] 45, .row w.heap.size 3 (Rep.size Int) (.slice (some ⟨b5687, 0, none⟩) 4 4) (([(0 : Int), (0 : Int), (0 : Int), (1 : Int)] : List Int).length) [.int .i64 0, .int .i64 0, .int .i64 0, .int .i64 1], .cells b176 [.int .i64 0, .int .i64 0, .int .i64 0, (.slice (some ⟨b158, 0, none⟩) 2 2)] 44, .row w.heap.size 65 (Rep.size TUnit) (.slice (some ⟨b158, 0, none⟩) 2 2) (([(⟨⟨#[120]⟩, (0 : Int), ([] : List Int), ([] : List Int), ([] : List Int), false⟩ : TUnit), (⟨⟨#[121]⟩, (0 : Int), ([] : List Int), ([] : List Int), ([] : List Int), false⟩ : TUnit)] : List TUnit).length) [.string ⟨#[120]⟩, .int .i64 0, .slice none 0 0, .slice none 0 0, .slice none 0 0, .bool false, .string ⟨#[121]⟩, .int .i64 0, .slice none 0 0, .slice none 0 0, .slice none 0 0, .bool false], .cells b95 [.int .i64 y78.fGroups, .int .i64 y78.fParties, .int .i64 y78.fLevels, v86] 44, .row w.heap.size 65 (Rep.size TUnit) v86 xs130.length cs135, .row w.heap.size 65 (Rep.size TUnit) (.slice (some ⟨b58, 0, none⟩) 1 1) (([(⟨⟨#[115, 101, 97]⟩, (0 : Int), ([] : List Int), ([] : List Int), ([] : List Int), true⟩ : TUnit)] : List TUnit).length) [.string ⟨#[115, 101, 97]⟩, .int .i64 0, .slice none 0 0, .slice none 0 0, .slice none 0 0, .bool true], .cells b41 [.int .i64 y24.fGroups, .int .i64 y24.fParties, .int .i64 y24.fLevels, v73] 44, .row w.heap.size 65 (Rep.size TUnit) v73 xs66.length cs72, .cells b20 [.int .i64 y3.fGroups, .int .i64 y3.fParties, .int .i64 y3.fLevels, v11] 44, .row w.heap.size 65 (Rep.size TUnit) v11 y3.fUnits.length cs12] := Tr.merge hS5371 s5379
      obtain ⟨hS6386, hT6387⟩ := St.arrB hS5381 (.one (.tl .hd) (.one .hd (.one .hd (.one .hd (.one .hd (.one .hd (.one (.tl .hd) (.one (.tl .hd) (.one (.tl .hd) (.one (.tl .hd) .done))))))))))
      have hm6388 := Cells.mv hc5688 (Tr.trans hT5067 (Tr.trans hT5372 (Tr.trans hT5382 hT6387)))
      have hm6389 := Rep.mv hr5373 (Tr.trans hT5382 hT6387)
      exact hJ6377 ((.slice (some ⟨b5687, 0, none⟩) 4 4), [.int .i64 0, .int .i64 0, .int .i64 0, .int .i64 1], (.slice (some ⟨b5068, 0, none⟩) 2 2), b5375) _ _ ⟨rfl, rfl, rfl, rfl, rfl, rfl, rfl, trivial⟩ ⟨hS6386, (Tr.trans hT5686 (Tr.trans hT5067 (Tr.trans hT5372 (Tr.trans hT5382 hT6387)))), hm6388, hm6389⟩
  refine MX.sr ?_
  refine RG.sg rfl rfl ?_
  refine RG.nil ?_
  refine MX.ret rfl ?_
  refine RT.leave hb0 Tryz.func6 rfl (.cons (.tmp rfl) .nil) rfl ?_
  obtain rfl := Option.some.inj h
  exact ⟨hS0.ag, fun w9 hw9 => rfl⟩
end Go.Proofs.YtmhgoecnjleagaaGreatDoor
