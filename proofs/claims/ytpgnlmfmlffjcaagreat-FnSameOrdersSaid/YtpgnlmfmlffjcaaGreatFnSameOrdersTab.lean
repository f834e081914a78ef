/- The terms of oe functions j9 FnSameOrders reaches (printed by oe author's own program). -/
import Derived.Test.YtpgnlmfmlffjcaaGreatChecked
import Derived.Test.YtpgnlmfmlffjcaaGreatRf9
import Derived.KernelRfl
set_option linter.unusedSimpArgs false
set_option linter.unusedVariables false
namespace Go.Proofs.YtpgnlmfmlffjcaaGreat
namespace FnSameOrders
open Go Go.Proofs.YtpgnlmfmlffjcaaGreat.Rf
set_option maxRecDepth 100000
def t3:TI:=⟨false,1,8,[.sc (.int .i64 0)],[],none,(some .i64),false,false,false,false⟩
theorem ti3:Kaq Tryz.prog 3=some t3:=by kernel_rfl
def t4:TI:=⟨false,1,1,[.sc (.bool false)],[],none,none,true,false,false,false⟩
theorem ti4:Kaq Tryz.prog 4=some t4:=by kernel_rfl
def t5:TI:=⟨false,1,1,[.sc (.int .u8 0)],[],none,(some .u8),false,false,false,false⟩
theorem ti5:Kaq Tryz.prog 5=some t5:=by kernel_rfl
def t26:TI:=⟨false,1,24,[.sl 1],[],(some 45),none,false,false,false,false⟩
theorem Pbr:Kaq Tryz.prog 26=some t26:=by kernel_rfl
def t29:TI:=⟨false,1,24,[.sl 1],[],(some 120),none,false,false,false,false⟩
theorem Pbq:Kaq Tryz.prog 29=some t29:=by kernel_rfl
def t31:TI:=⟨true,2,32,[.sc (.int .i64 0),.sl 1],[(0,3),(1,29)],none,none,false,false,false,false⟩
theorem Pbp:Kaq Tryz.prog 31=some t31:=by kernel_rfl
def t40:TI:=⟨false,1,24,[.sl 1],[],(some 5),none,false,false,false,false⟩
theorem Pbo:Kaq Tryz.prog 40=some t40:=by kernel_rfl
def t45:TI:=⟨false,1,24,[.sl 1],[],(some 3),none,false,false,false,false⟩
theorem Pbn:Kaq Tryz.prog 45=some t45:=by kernel_rfl
def t48:TI:=⟨true,5,40,[.sc (.int .i64 0),.sc (.int .i64 0),.sc (.int .i64 0),.sc (.int .i64 0),.sc (.int .i64 0)],[(0,3),(1,3),(2,3),(3,3),(4,3)],none,none,false,false,false,true⟩
theorem Pbm:Kaq Tryz.prog 48=some t48:=by kernel_rfl
def t50:TI:=⟨true,2,32,[.sc (.int .i64 0),.sl 1],[(0,3),(1,45)],none,none,false,false,false,false⟩
theorem Pbl:Kaq Tryz.prog 50=some t50:=by kernel_rfl
def t52:TI:=⟨true,10,96,[.sc (.int .i64 0),.sc (.int .i64 0),.sc (.int .i64 0),.sc (.int .i64 0),.sc (.int .i64 0),.sc (.int .i64 0),.sc (.int .i64 0),.sc (.int .i64 0),.sc (.int .i64 0),.sl 1],[(0,3),(1,3),(2,3),(3,48),(8,50)],none,none,false,false,false,false⟩
theorem Pbk:Kaq Tryz.prog 52=some t52:=by kernel_rfl
def t95:TI:=⟨false,1,8,[.sc (.int .u64 0)],[],none,(some .u64),false,false,false,false⟩
theorem Pbj:Kaq Tryz.prog 95=some t95:=by kernel_rfl
def t97:TI:=⟨true,3,40,[.sl 1,.sc (.int .i64 0),.sc (.int .u64 0)],[(0,40),(1,3),(2,95)],none,none,false,false,false,false⟩
theorem Pbi:Kaq Tryz.prog 97=some t97:=by kernel_rfl
def Mbo:TI:=⟨false,1,24,[.sl 10],[],(some 52),none,false,false,false,false⟩
theorem Lby:Kaq Tryz.prog 120=some Mbo:=by kernel_rfl
def Mbn:TI:=⟨false,1,24,[.sl 1],[],(some 4),none,false,false,false,false⟩
theorem Lbx:Kaq Tryz.prog 204=some Mbn:=by kernel_rfl
def tiL:List (Nat×TI):=[(3,t3),(4,t4),(5,t5),(26,t26),(29,t29),(31,t31),(40,t40),(45,t45),(48,t48),(50,t50),(52,t52),(95,t95),(97,t97),(120,Mbo),(204,Mbn)]
theorem Dbg:uO Tryz.prog (iZ tiL):=Sai (l:=tiL) (fc ti3 <| fc ti4 <| fc ti5 <| fc Pbr <| fc Pbq <| fc Pbp <| fc Pbo <| fc Pbn <| fc Pbm <| fc Pbl <| fc Pbk <| fc Pbj <| fc Pbi <| fc Lby <| fc Lbx <| fc0)
def sg0:Sig:=⟨7,[(false,[.fz false]),(false,[.fz false])],[],[(false,[.sc])]⟩
def sg1:Sig:=⟨23,[(false,[.fz false]),(false,[.fz false])],[],[(false,[.sc])]⟩
def sg2:Sig:=⟨35,[(false,[.fz false])],[],[(true,[.sc,.ow 99])]⟩
def sg3:Sig:=⟨69,[(false,[.fz false])],[],[(true,[.sc,.ow 99])]⟩
def sg4:Sig:=⟨74,[(false,[.px 0])],[(false,[(.fz false,.fz),(.sc,.sc),(.sc,.sc)])],[(true,[.sc,.ow 99])]⟩
def sg5:Sig:=⟨127,[(false,[.sc])],[],[(true,[.sc,.ow 99])]⟩
def sg6:Sig:=⟨86,[(false,[.px 0]),(false,[.sc])],[(false,[(.fz false,.fz),(.sc,.sc),(.sc,.sc)])],[(false,[.sc])]⟩
def sg7:Sig:=⟨141,[(false,[.px 0])],[(false,[(.fz false,.fz),(.sc,.sc),(.sc,.sc)])],[(false,[.sc])]⟩
def sg8:Sig:=⟨128,[(false,[.px 0])],[(false,[(.fz false,.fz),(.sc,.sc),(.sc,.sc)])],[(true,[.sc,.sc,.sc,.sc,.sc])]⟩
def sg9:Sig:=⟨85,[(false,[.px 0]),(false,[.sc])],[(false,[(.fz false,.fz),(.sc,.sc),(.sc,.sc)])],[(false,[.sc])]⟩
def Ob6:Sig:=⟨129,[(true,[.sc,.fz false]),(true,[.sc,.sc,.sc,.sc,.sc]),(false,[.sc]),(false,[.sc])],[],[(true,[.sc,.ow 99])]⟩
def Ob5:Sig:=⟨96,[(false,[.sc])],[],[(true,[.sc,.ow 99])]⟩
def Ob4:Sig:=⟨89,[(true,[.sc,.sc,.sc,.sc,.sc]),(true,[.sc,.sc,.sc,.sc,.sc])],[],[(false,[.sc])]⟩
def Ob3:Sig:=⟨143,[(true,[.sc,.sc,.sc,.sc,.sc])],[],[(false,[.fz])]⟩
def Ob2:Sig:=⟨124,[(false,[.fz false]),(false,[.sc])],[],[(false,[.fz])]⟩
def Ob1:Sig:=⟨144,[(false,[.fz false]),(false,[.sc])],[],[(false,[.sc])]⟩
def Ob0:Sig:=⟨172,[(false,[.sc]),(false,[.sc])],[],[(false,[.sc])]⟩
def Obz:Sig:=⟨130,[(true,[.sc,.fz false]),(false,[.sc]),(false,[.sc]),(true,[.sc,.sc,.sc,.sc,.sc,.sc,.sc,.sc,.sc,.fz false])],[],[(true,[.sc,.ow 99])]⟩
def Oby:Sig:=⟨120,[(true,[.sc,.fz false])],[],[(true,[.sc,.ow 99])]⟩
def Obx:Sig:=⟨97,[(true,[.sc,.sc,.sc,.sc,.sc,.sc,.sc,.sc,.sc,.fz false])],[],[(true,[.sc,.sc,.sc,.sc,.sc,.sc,.sc,.sc,.sc,.ow 99])]⟩
def Obw:Sig:=⟨153,[(true,[.sc,.fz false])],[],[(true,[.sc,.ow 99])]⟩
def Obv:Sig:=⟨185,[(false,[.fz false])],[],[(false,[.ow 99])]⟩
def Obu:Sig:=⟨131,[(false,[.px 0])],[(false,[(.fz false,.fz),(.sc,.sc),(.sc,.sc)])],[(true,[.sc,.ow 99])]⟩
def Obt:Sig:=⟨132,[(false,[.px 0]),(false,[.fz false])],[(false,[(.fz false,.fz),(.sc,.sc),(.sc,.sc)])],[(false,[.sc])]⟩
def Obs:Sig:=⟨173,[(false,[.px 0]),(false,[.sc])],[(false,[(.fz false,.fz),(.sc,.sc),(.sc,.sc)])],[(true,[.sc,.sc,.sc,.sc,.sc,.sc,.sc,.sc,.sc,.ow 99])]⟩
def Obr:Sig:=⟨33,[(true,[.sc,.fz false])],[],[(false,[.sc]),(false,[.sc])]⟩
def Obq:Sig:=⟨58,[(true,[.sc,.fz false])],[],[(false,[.sc])]⟩
def Obp:Sig:=⟨78,[(false,[.sc])],[],[(false,[.sc])]⟩
def Obo:Sig:=⟨101,[(false,[.fz false]),(false,[.clo 102 [.px 0]])],[(true,[(.sc,.sc),(.fz false,.fz)])],[(false,[.sc])]⟩
def Obn:Sig:=⟨155,[(false,[.fz false]),(false,[.clo 102 [.px 0]])],[(true,[(.sc,.sc),(.fz false,.fz)])],[(false,[.sc])]⟩
def Obm:Sig:=⟨102,[(false,[.fz false]),(false,[.px 0])],[(true,[(.sc,.sc),(.fz false,.fz)])],[(false,[.sc])]⟩
def Obl:Sig:=⟨103,[(false,[.fz false]),(false,[.clo 104 [.px 0]])],[(true,[(.sc,.sc),(.fz false,.fz)])],[(false,[.sc])]⟩
def Obk:Sig:=⟨156,[(false,[.fz false]),(false,[.clo 104 [.px 0]])],[(true,[(.sc,.sc),(.fz false,.fz)])],[(false,[.sc])]⟩
def Obi:Sig:=⟨104,[(true,[.sc,.sc,.sc,.sc,.sc,.sc,.sc,.sc,.sc,.fz false]),(false,[.px 0])],[(true,[(.sc,.sc),(.fz false,.fz)])],[(false,[.sc])]⟩
def Obh:Sig:=⟨80,[(false,[.sc]),(true,[.sc,.sc,.sc,.sc,.sc,.sc,.sc,.sc,.sc,.fz false])],[],[(false,[.sc])]⟩
def Obg:Sig:=⟨105,[(false,[.sc]),(false,[.sc]),(false,[.sc])],[],[(false,[.sc])]⟩
def Obf:Sig:=⟨134,[(true,[.sc,.sc,.sc,.sc,.sc])],[],[(false,[.sc])]⟩
def Obe:Sig:=⟨178,[(false,[.sc])],[],[(false,[.sc])]⟩
def Obd:Sig:=⟨135,[(false,[.sc]),(true,[.sc,.fz false])],[],[(false,[.sc])]⟩
def Obc:Sig:=⟨174,[(false,[.fz false]),(false,[.clo 179 []])],[],[(false,[.sc])]⟩
def Obb:Sig:=⟨209,[(false,[.fz false]),(false,[.clo 179 []])],[],[(false,[.sc])]⟩
def Oba:Sig:=⟨179,[(false,[.sc])],[],[(false,[.sc])]⟩
def Nb9:Sig:=⟨107,[(false,[.sc])],[],[(true,[.sc,.ow 99])]⟩
def Nb8:Sig:=⟨136,[(true,[.sc,.fz false]),(true,[.sc,.fz false])],[],[(false,[.sc])]⟩
def Nb7:Sig:=⟨123,[(false,[.fz false]),(false,[.fz false])],[],[(false,[.sc])]⟩
def Nb6:Sig:=⟨76,[(true,[.sc,.fz false])],[],[(false,[.sc])]⟩
def Nb5:Sig:=⟨73,[(true,[.sc,.fz false])],[],[(false,[.ow 99])]⟩
def Nb4:Sig:=⟨125,[(true,[.sc,.fz false]),(false,[.clo 126 [.px 0]])],[(false,[(.ow 99,.ow 99)])],[]⟩
def Nb3:Sig:=⟨126,[(false,[.sc]),(false,[.sc]),(true,[.sc,.sc,.sc,.sc,.sc,.sc,.sc,.sc,.sc,.fz false]),(false,[.px 0])],[(false,[(.ow 99,.ow 99)])],[]⟩
def Nb2:Sig:=⟨60,[(true,[.sc,.fz false]),(false,[.sc]),(false,[.sc])],[],[(true,[.sc,.sc,.sc,.sc,.sc,.sc,.sc,.sc,.sc,.ow 99])]⟩
def Nb1:Sig:=⟨106,[(true,[.sc,.sc,.sc,.sc,.sc,.sc,.sc,.sc,.sc,.fz false])],[],[(true,[.sc,.sc,.sc,.sc,.sc,.sc,.sc,.sc,.sc,.ow 99])]⟩
def Nb0:Sig:=⟨157,[(true,[.sc,.fz false])],[],[(true,[.sc,.ow 99])]⟩
def Gbv:Sig:=⟨188,[(false,[.fz false])],[],[(false,[.ow 99])]⟩
def Nbz:Sig:=⟨133,[(true,[.sc,.sc,.sc,.sc,.sc]),(true,[.sc,.sc,.sc,.sc,.sc])],[],[(false,[.sc])]⟩
def Nby:Sig:=⟨175,[(true,[.sc,.sc,.sc,.sc,.sc])],[],[(false,[.ow 99])]⟩
def Nbx:Sig:=⟨174,[(false,[.fz false]),(false,[.clo 176 [.px 0]])],[(true,[(.sc,.sc),(.sc,.sc),(.sc,.sc),(.sc,.sc),(.sc,.sc)])],[(false,[.sc])]⟩
def Nbw:Sig:=⟨209,[(false,[.fz false]),(false,[.clo 176 [.px 0]])],[(true,[(.sc,.sc),(.sc,.sc),(.sc,.sc),(.sc,.sc),(.sc,.sc)])],[(false,[.sc])]⟩
def Nbv:Sig:=⟨176,[(false,[.sc]),(false,[.px 0])],[(true,[(.sc,.sc),(.sc,.sc),(.sc,.sc),(.sc,.sc),(.sc,.sc)])],[(false,[.sc])]⟩
def Nbu:Sig:=⟨177,[(false,[.fz false]),(false,[.sc])],[],[(false,[.sc])]⟩
def Nbt:Sig:=⟨210,[(false,[.fz false]),(false,[.sc])],[],[(false,[.sc])]⟩
def Nbs:Sig:=⟨28,[(true,[.sc,.fz false])],[],[(false,[.ow 99]),(false,[.sc])]⟩
def Nbr:Sig:=⟨36,[(false,[.fz false])],[],[(false,[.sc])]⟩
def Nbq:Sig:=⟨37,[(false,[.sc])],[],[(true,[.sc,.ow 99]),(false,[.sc])]⟩
def Nbp:Sig:=⟨79,[(false,[.sc])],[],[(true,[.sc,.ow 99])]⟩
def Nbo:Sig:=⟨30,[(true,[.sc,.fz false]),(false,[.sc]),(false,[.sc])],[],[(true,[.sc,.sc,.sc,.sc,.sc,.sc,.sc,.sc,.sc,.ow 99]),(false,[.sc])]⟩
def Nbn:Sig:=⟨59,[(false,[.sc]),(false,[.sc]),(false,[.sc])],[],[(false,[.sc])]⟩
def Nbm:Sig:=⟨38,[(true,[.sc,.fz false]),(false,[.sc]),(false,[.sc]),(true,[.sc,.sc,.sc,.sc,.sc,.sc,.sc,.sc,.sc,.fz false])],[],[(true,[.sc,.ow 99]),(false,[.sc])]⟩
def Nbl:Sig:=⟨81,[(true,[.sc,.fz false])],[],[(true,[.sc,.ow 99])]⟩
def Nbk:Sig:=⟨137,[(false,[.fz false])],[],[(false,[.ow 99])]⟩
def Nbj:Sig:=⟨82,[(false,[.px 0]),(false,[.sc]),(false,[.sc]),(true,[.sc,.sc,.sc,.sc,.sc,.sc,.sc,.sc,.sc,.fz false])],[(false,[(.sc,.sc),(.ow 99,.ow 99)])],[]⟩
def Nbi:Sig:=⟨22,[(true,[.sc,.fz false])],[],[(false,[.ow 99]),(false,[.sc])]⟩
def Nbh:Sig:=⟨68,[(true,[.sc,.fz false])],[],[(false,[.ow 99])]⟩
def Nbg:Sig:=⟨66,[(true,[.sc,.fz false])],[],[(false,[.ow 99])]⟩
def Nbf:Sig:=⟨118,[(false,[.ow 99]),(false,[.clo 119 [.px 0]])],[(true,[(.sc,.sc),(.fz false,.fz)])],[(false,[.ow 99])]⟩
def Nbe:Sig:=⟨139,[(false,[.fz false]),(false,[.clo 119 [.px 0]])],[(true,[(.sc,.sc),(.fz false,.fz)])],[(false,[.sc])]⟩
def Nbd:Sig:=⟨119,[(false,[.fz false]),(false,[.px 0])],[(true,[(.sc,.sc),(.fz false,.fz)])],[(false,[.sc])]⟩
def Nbc:Sig:=⟨61,[(true,[.sc,.fz false]),(false,[.fz false])],[],[(false,[.fz])]⟩
def Nbb:Sig:=⟨108,[(true,[.sc,.fz false])],[],[(false,[.ow 99])]⟩
def Nba:Sig:=⟨109,[(false,[.fz false]),(false,[.fz false])],[],[(false,[.sc])]⟩
def Mb9:Sig:=⟨158,[(false,[.fz false]),(false,[.clo 159 [.px 0]])],[(true,[(.fz false,.fz)])],[(false,[.sc])]⟩
def Mb8:Sig:=⟨139,[(false,[.fz false]),(false,[.clo 159 [.px 0]])],[(true,[(.fz false,.fz)])],[(false,[.sc])]⟩
def Mb7:Sig:=⟨159,[(false,[.fz false]),(false,[.px 0])],[(true,[(.fz false,.fz)])],[(false,[.sc])]⟩
def Mb6:Sig:=⟨110,[(false,[.mu 1]),(false,[.clo 111 []])],[],[]⟩
def Mb5:Sig:=⟨70,[(true,[.sc,.fz false])],[],[(false,[.ow 99]),(false,[.ow 99])]⟩
def Mb4:Sig:=⟨122,[(false,[.fz false]),(false,[.fz false])],[],[(false,[.ow 99])]⟩
def Mb3:Sig:=⟨169,[(false,[.fz false])],[],[(false,[.ow 99])]⟩
def Mb2:Sig:=⟨204,[(false,[.fz false]),(false,[.sc])],[],[(false,[.ow 99])]⟩
def Mb1:Sig:=⟨139,[(false,[.fz false]),(false,[.clo 205 [.px 0,.px 1]])],[(true,[(.fz true,.fz)]),(true,[(.fz true,.fz)])],[(false,[.sc])]⟩
def Mb0:Sig:=⟨205,[(false,[.fz false]),(false,[.px 0]),(false,[.px 1])],[(true,[(.fz false,.fz)]),(true,[(.fz false,.fz)])],[(false,[.sc])]⟩
def Mbz:Sig:=⟨174,[(false,[.fz false]),(false,[.clo 206 [.px 0,.px 1]])],[(true,[(.fz false,.fz)]),(true,[(.fz false,.fz)])],[(false,[.sc])]⟩
def Mby:Sig:=⟨209,[(false,[.fz false]),(false,[.clo 206 [.px 0,.px 1]])],[(true,[(.fz false,.fz)]),(true,[(.fz false,.fz)])],[(false,[.sc])]⟩
def Mbx:Sig:=⟨206,[(false,[.sc]),(false,[.px 0]),(false,[.px 1])],[(true,[(.fz false,.fz)]),(true,[(.fz false,.fz)])],[(false,[.sc])]⟩
def Mbw:Sig:=⟨207,[(false,[.ow 99]),(false,[.sc]),(false,[.sc])],[],[(false,[.ow 99])]⟩
def Mbv:Sig:=⟨170,[(false,[.mu 1]),(false,[.clo 171 [.px 0]])],[(true,[(.fz false,.fz)])],[]⟩
def Mbu:Sig:=⟨39,[(false,[.fz false]),(false,[.fz false]),(true,[.sc,.fz false])],[],[(false,[.sc]),(false,[.sc])]⟩
def Mbt:Sig:=⟨83,[(false,[.sc]),(false,[.fz false])],[],[(false,[.sc])]⟩
def Mbs:Sig:=⟨84,[(true,[.sc,.fz false]),(false,[.fz false]),(false,[.fz false])],[],[(false,[.sc])]⟩
def Mbr:Sig:=⟨138,[(false,[.fz false]),(false,[.px 0])],[(true,[(.fz false,.fz)])],[(false,[.sc])]⟩
def Mbq:Sig:=⟨139,[(false,[.fz false]),(false,[.clo 140 [.px 0]])],[(true,[(.fz false,.fz)])],[(false,[.sc])]⟩
def Mbp:Sig:=⟨140,[(false,[.fz false]),(false,[.px 0])],[(true,[(.fz false,.fz)])],[(false,[.sc])]⟩
def Hbr:Sig:=⟨29,[(false,[.fz false]),(false,[.fz false])],[],[(false,[.sc])]⟩
def Hbq:Sig:=⟨72,[(false,[.fz false]),(false,[.fz false])],[],[(false,[.sc])]⟩
def Hbp:Sig:=⟨40,[(false,[.fz false])],[],[(false,[.fz]),(false,[.fz]),(true,[.sc,.fz])]⟩
def Hbo:Sig:=⟨21,[(true,[.sc,.fz false])],[],[(false,[.fz]),(false,[.sc])]⟩
def Hbn:Sig:=⟨64,[(true,[.sc,.fz false])],[],[(false,[.sc])]⟩
def Hbm:Sig:=⟨115,[(false,[.sc])],[],[(false,[.sc])]⟩
def Hbl:Sig:=⟨116,[(false,[.sc]),(true,[.sc,.sc,.sc,.sc,.sc,.sc,.sc,.sc,.sc,.fz false])],[],[(false,[.sc])]⟩
def Hbk:Sig:=⟨152,[(false,[.sc]),(false,[.sc]),(false,[.sc])],[],[(false,[.sc])]⟩
def Hbj:Sig:=⟨164,[(true,[.sc,.fz false]),(true,[.sc,.fz false])],[],[(false,[.sc])]⟩
def Hbi:Sig:=⟨142,[(false,[.fz false]),(false,[.fz false])],[],[(false,[.sc])]⟩
def Hbh:Sig:=⟨165,[(true,[.sc,.sc,.sc,.sc,.sc])],[],[(false,[.sc])]⟩
def Hbg:Sig:=⟨201,[(true,[.sc,.sc,.sc,.sc,.sc])],[],[(false,[.sc])]⟩
def Hbf:Sig:=⟨219,[(false,[.sc])],[],[(false,[.sc])]⟩
def Hbe:Sig:=⟨166,[(false,[.sc]),(true,[.sc,.fz false])],[],[(false,[.sc])]⟩
def Hbd:Sig:=⟨202,[(false,[.fz false]),(false,[.sc]),(false,[.sc])],[],[(false,[.sc])]⟩
def Hbc:Sig:=⟨67,[(true,[.sc,.fz false])],[],[(false,[.fz])]⟩
def Hbb:Sig:=⟨65,[(true,[.sc,.fz false])],[],[(false,[.fz])]⟩
def Hba:Sig:=⟨117,[(true,[.sc,.fz false])],[],[(false,[.ow 99])]⟩
def Gb9:Sig:=⟨56,[(true,[.sc,.fz false]),(false,[.sc]),(false,[.sc])],[],[(false,[.fz])]⟩
def Gb8:Sig:=⟨98,[(true,[.sc,.fz false]),(false,[.sc]),(false,[.sc])],[],[(false,[.ow 99])]⟩
def Gb7:Sig:=⟨55,[(true,[.sc,.fz false]),(false,[.sc]),(false,[.sc])],[],[(true,[.sc,.sc,.sc,.sc,.sc,.sc,.sc,.sc,.sc,.ow 99])]⟩
def Gb6:Sig:=⟨88,[(false,[.fz false]),(false,[.fz false])],[],[(false,[.sc])]⟩
def Gb5:Sig:=⟨99,[(false,[.fz false]),(false,[.fz false])],[],[(false,[.fz])]⟩
def Gb4:Sig:=⟨71,[(true,[.sc,.fz false])],[],[(false,[.ow 99]),(false,[.fz])]⟩
def Gb3:Sig:=⟨121,[(false,[.fz false]),(false,[.fz false])],[],[(false,[.ow 99])]⟩
def Gb2:Sig:=⟨167,[(false,[.fz false])],[],[(false,[.fz])]⟩
def Gb1:Sig:=⟨203,[(false,[.fz false])],[],[(false,[.ow 99])]⟩
def Gb0:Sig:=⟨220,[(false,[.fz false]),(false,[.sc])],[],[(false,[.fz])]⟩
def Gbz:Sig:=⟨168,[(false,[.fz false]),(false,[.fz false])],[],[(false,[.ow 99])]⟩
def Gby:Sig:=⟨41,[(false,[.fz false]),(false,[.fz false]),(true,[.sc,.fz false])],[],[(false,[.sc]),(false,[.sc])]⟩
def Gbx:Sig:=⟨87,[(true,[.sc,.fz false]),(false,[.fz false])],[],[(false,[.sc])]⟩
def Gbw:Sig:=⟨95,[(false,[.sc]),(false,[.sc]),(false,[.sc])],[],[(false,[.sc])]⟩
def sigs:List (Nat×Sig):=[(0,sg0),(1,sg1),(2,sg2),(3,sg3),(4,sg4),(5,sg5),(6,sg6),(7,sg7),(8,sg8),(9,sg9),(10,Ob6),(11,Ob5),(12,Ob4),(13,Ob3),(14,Ob2),(15,Ob1),(16,Ob0),(17,Obz),(18,Oby),(19,Obx),(20,Obw),(21,Obv),(22,Obu),(23,Obt),(24,Obs),(25,Obr),(26,Obq),(27,Obp),(28,Obo),(29,Obn),(30,Obm),(31,Obl),(32,Obk),(33,Obi),(34,Obh),(35,Obg),(36,Obf),(37,Obe),(38,Obd),(39,Obc),(40,Obb),(41,Oba),(42,Nb9),(43,Nb8),(44,Nb7),(45,Nb6),(46,Nb5),(47,Nb4),(48,Nb3),(49,Nb2),(50,Nb1),(51,Nb0),(52,Gbv),(53,Nbz),(54,Nby),(55,Nbx),(56,Nbw),(57,Nbv),(58,Nbu),(59,Nbt),(60,Nbs),(61,Nbr),(62,Nbq),(63,Nbp),(64,Nbo),(65,Nbn),(66,Nbm),(67,Nbl),(68,Nbk),(69,Nbj),(70,Nbi),(71,Nbh),(72,Nbg),(73,Nbf),(74,Nbe),(75,Nbd),(76,Nbc),(77,Nbb),(78,Nba),(79,Mb9),(80,Mb8),(81,Mb7),(82,Mb6),(83,Mb5),(84,Mb4),(85,Mb3),(86,Mb2),(87,Mb1),(88,Mb0),(89,Mbz),(90,Mby),(91,Mbx),(92,Mbw),(93,Mbv),(94,Mbu),(95,Mbt),(96,Mbs),(97,Mbr),(98,Mbq),(99,Mbp),(100,Hbr),(101,Hbq),(102,Hbp),(103,Hbo),(104,Hbn),(105,Hbm),(106,Hbl),(107,Hbk),(108,Hbj),(109,Hbi),(110,Hbh),(111,Hbg),(112,Hbf),(113,Hbe),(114,Hbd),(115,Hbc),(116,Hbb),(117,Hba),(118,Gb9),(119,Gb8),(120,Gb7),(121,Gb6),(122,Gb5),(123,Gb4),(124,Gb3),(125,Gb2),(126,Gb1),(127,Gb0),(128,Gbz),(129,Gby),(130,Gbx),(131,Gbw)]
abbrev E0:Env:=⟨iZ tiL,sigs,0,0,false,false,[],[],[],0⟩
def tm0:Tm Unit :=
(.call none 1 [.v 0,.v 1] 1 [] <|
(.ite (.v 2)
(.leaf .ret [.c (.bool true)] ())
(.call none 2 [.v 0] 2 [] <|
(.call none 25 [.v 3,.v 4] 2 [] <|
(.call none 60 [.v 3,.v 4] 2 [] <|
(.lt none (.dep 99) [.v 7] 0 <|
(.bind 0
(.lt (some (.v 6,true)) .id [.v 8] 1 <|
(.lt none .pick [.v 6,.v 9,.c (.bool false)] 1 <|
(.lt (some (.v 10,true)) .id [.v 5] 1 <|
(.lt none .pick [.v 10,.v 11,.c (.bool false)] 1 <|
(.lt (some (.v 12,true)) .len [.v 7] 1 <|
(.lt (some (.v 12,true)) (.bin .gtr) [.v 13,.c (.int .i64 0)] 1 <|
(.lt none .pick [.v 12,.v 14,.c (.bool false)] 1 <|
(.ite (.v 15)
(.call none 61 [.v 1] 1 [] <|
(.lt none .len [.v 7] 1 <|
(.lt none (.bin .rem) [.v 16,.v 17] 1 <|
(.lt none .inb [.v 7,.v 18] 0 <|
(.lt none (.row 1 0 [false]) [.v 7,.v 18] 1 <|
(.lt none .len [.v 19] 1 <|
(.lt none (.bin .neq) [.v 20,.c (.int .i64 2)] 1 <|
(.ite (.v 21)
(.leaf .ret [.c (.bool false)] ())
(.call none 62 [.v 3] 3 [] <|
(.call none 64 [.v 22,.v 23,.c (.int .i64 0),.c (.int .i64 1)] 11 [] <|
(.lt none (.dep 99) [.v 34] 0 <|
(.lt none .inb [.v 19,.c (.int .i64 0)] 0 <|
(.lt none (.row 1 0 [true]) [.v 19,.c (.int .i64 0)] 1 <|
(.lt none .inb [.v 19,.c (.int .i64 1)] 0 <|
(.lt none (.row 1 0 [true]) [.v 19,.c (.int .i64 1)] 1 <|
(.call none 66 [.v 3,.v 4,.v 36,.v 37,.v 25,.v 26,.v 27,.v 28,.v 29,.v 30,.v 31,.v 32,.v 33,.v 34] 3 [] <|
(.lt none (.dep 99) [.v 39] 0 <|
(.call none 70 [.v 3,.v 4] 2 [] <|
(.lt none (.dep 99) [.v 41] 0 <|
(.call none 70 [.v 38,.v 39] 2 [] <|
(.lt none (.dep 99) [.v 43] 0 <|
(.call none 94 [.v 41,.v 43,.v 3,.v 4] 2 [] <|
(.lt none .not [.v 24] 1 <|
(.lt (some (.v 47,false)) .id [.v 35] 1 <|
(.lt (some (.v 47,false)) .not [.v 48] 1 <|
(.lt none .pick [.v 47,.c (.bool true),.v 49] 1 <|
(.lt (some (.v 50,false)) .id [.v 40] 1 <|
(.lt (some (.v 50,false)) .not [.v 51] 1 <|
(.lt none .pick [.v 50,.c (.bool true),.v 52] 1 <|
(.lt (some (.v 53,false)) .id [.v 42] 1 <|
(.lt (some (.v 53,false)) .not [.v 54] 1 <|
(.lt none .pick [.v 53,.c (.bool true),.v 55] 1 <|
(.lt (some (.v 56,false)) .id [.v 44] 1 <|
(.lt (some (.v 56,false)) .not [.v 57] 1 <|
(.lt none .pick [.v 56,.c (.bool true),.v 58] 1 <|
(.lt (some (.v 59,false)) .id [.v 46] 1 <|
(.lt (some (.v 59,false)) .not [.v 60] 1 <|
(.lt none .pick [.v 59,.c (.bool true),.v 61] 1 <|
(.lt (some (.v 62,false)) .id [.v 45] 1 <|
(.lt (some (.v 62,false)) .not [.v 63] 1 <|
(.lt none .pick [.v 62,.c (.bool true),.v 64] 1 <|
(.lt (some (.v 65,false)) .len [.v 43] 1 <|
(.lt (some (.v 65,false)) .len [.v 41] 1 <|
(.lt (some (.v 65,false)) (.bin .gtr) [.v 66,.v 67] 1 <|
(.lt none .pick [.v 65,.c (.bool true),.v 68] 1 <|
(.call (some (.v 69,false)) 100 [.v 43,.v 19] 1 [] <|
(.lt none .pick [.v 69,.c (.bool true),.v 70] 1 <|
(.ite (.v 71)
(.leaf .ret [.c (.bool false)] ())
(.leaf (.yield 0) [] ())))))))))))))))))))))))))))))))))))))))))))))))))
(.leaf (.yield 0) [] ()))))))))) <|
(.call none 102 [.v 1] 4 [] <|
(.call none 94 [.v 9,.v 10,.v 11,.v 12] 2 [] <|
(.call none 129 [.v 9,.v 10,.v 11,.v 12] 2 [] <|
(.lt none (.eqb false) [.v 14,.v 16] 1 <|
(.lt (some (.v 17,true)) .id [.v 13] 1 <|
(.lt (some (.v 17,true)) .id [.v 15] 1 <|
(.lt (some (.v 17,true)) (.eqb false) [.v 18,.v 19] 1 <|
(.lt none .pick [.v 17,.v 20,.c (.bool false)] 1 <|
(.leaf .ret [.v 21] ()))))))))))))))))
def tm1:Tm Unit :=
(.lt none .len [.v 0] 1 <|
(.lt none (.bin .gtr) [.v 2,.c (.int .i64 1048576)] 1 <|
(.lt (some (.v 3,false)) .len [.v 1] 1 <|
(.lt (some (.v 3,false)) .len [.v 0] 1 <|
(.lt (some (.v 3,false)) (.bin .sub) [.c (.int .i64 1048576),.v 5] 1 <|
(.lt (some (.v 3,false)) (.bin .gtr) [.v 4,.v 6] 1 <|
(.lt none .pick [.v 3,.c (.bool true),.v 7] 1 <|
(.leaf .ret [.v 8] ()))))))))
def tm2:Tm Unit :=
(.call none 3 [.v 0] 2 [] <|
(.leaf .ret [.v 1,.v 2] ()))
def tm3:Tm Unit :=
(.call none 4 [.v 0,.c (.int .i64 0),.c (.int .u64 0)] 5 [] <|
(.leaf .ret [.v 1,.v 2] ()))
def tm4:Tm Unit :=
(.call none 5 [.c (.int .i64 3)] 2 [] <|
(.call none 6 [.c (.int .i64 9),.v 0,.v 1,.v 2] 4 [] <|
(.bind 1
(.loop [.v 5,.v 6,.v 7,.v 8,.v 3,.v 4]
(.lt none (.bin .gtr) [.v 9,.c (.int .i64 0)] 1 <|
(.ite (.v 15)
(.bind 2
(.call none 6 [.c (.int .i64 3),.v 10,.v 11,.v 12] 4 [] <|
(.lt none .inb [.v 14,.v 16] 0 <|
(.lt none (.row 1 0 [false]) [.v 14,.v 16] 1 <|
(.lt none .len [.v 20] 1 <|
(.lt none (.bin .add) [.v 21,.c (.int .i64 1)] 1 <|
(.lt none (.bin .gtr) [.v 22,.c (.int .i64 4)] 1 <|
(.ite (.v 23)
(.leaf (.yield 2) [.v 17,.v 18,.v 19,.v 13,.v 14] ())
(.call none 8 [.v 17,.v 18,.v 19] 8 [] <|
(.call none 10 [.v 13,.v 14,.v 24,.v 25,.v 26,.v 27,.v 28,.v 16,.v 22] 2 [] <|
(.lt none (.dep 99) [.v 33] 0 <|
(.bind 0
(.call none 9 [.c (.int .i64 3),.v 29,.v 30,.v 31] 4 [] <|
(.ite (.v 34)
(.call none 6 [.c (.int .i64 3),.v 35,.v 36,.v 37] 4 [] <|
(.call none 6 [.c (.int .i64 4),.v 39,.v 40,.v 41] 4 [] <|
(.lt none .inb [.v 33,.v 38] 0 <|
(.lt none (.set 1 0 1) [.v 33,.v 38,.v 42] 1 <|
(.leaf (.yield 0) [.v 43,.v 44,.v 45,.v 46] ())))))
(.leaf (.yield 0) [.v 35,.v 36,.v 37,.v 33] ()))) <|
(.bind 0
(.call none 9 [.c (.int .i64 5),.v 34,.v 35,.v 36] 4 [] <|
(.ite (.v 38)
(.call none 6 [.c (.int .i64 2),.v 39,.v 40,.v 41] 4 [] <|
(.lt none (.bin .add) [.c (.int .i64 1),.v 42] 1 <|
(.leaf (.yield 0) [.v 46,.v 43,.v 44,.v 45] ())))
(.leaf (.yield 0) [.c (.int .i64 3),.v 39,.v 40,.v 41] ()))) <|
(.call none 17 [.v 13,.v 14,.v 16,.v 22,.c (.int .i64 0),.c (.int .i64 0),.v 38,.v 24,.v 25,.v 26,.v 27,.v 28,.v 32,.v 37] 2 [] <|
(.lt none (.dep 99) [.v 43] 0 <|
(.leaf (.yield 2) [.v 39,.v 40,.v 41,.v 42,.v 43] ()))))))))))))))) <|
(.lt none (.bin .sub) [.v 9,.c (.int .i64 1)] 1 <|
(.leaf .cont [.v 21,.v 16,.v 17,.v 18,.v 19,.v 20] ())))
(.leaf (.yield 1) [.v 10,.v 11,.v 12,.v 13,.v 14] ())))) <|
(.call none 9 [.c (.int .i64 20),.v 9,.v 10,.v 11] 4 [] <|
(.ite (.v 14)
(.call none 22 [.v 15,.v 16,.v 17] 5 [] <|
(.leaf .ret [.v 18,.v 19,.v 20,.v 21,.v 22] ()))
(.leaf .ret [.v 12,.v 13,.v 15,.v 16,.v 17] ()))))))
def tm5:Tm Unit :=
(.lt none (.make 24 [(.rows 10 [])]) [.v 0] 1 <|
(.leaf .ret [.v 0,.v 1] ()))
def tm6:Tm Unit :=
(.lt none (.bin .leq) [.v 0,.c (.int .i64 1)] 1 <|
(.ite (.v 4)
(.leaf .ret [.c (.int .i64 0),.v 1,.v 2,.v 3] ())
(.call none 7 [.v 1,.v 2,.v 3] 4 [] <|
(.bind 0
(.lt none (.bin .gtr) [.v 0,.c (.int .i64 200)] 1 <|
(.ite (.v 9)
(.lt none (.bin .mul) [.v 5,.c (.int .i64 256)] 1 <|
(.call none 7 [.v 6,.v 7,.v 8] 4 [] <|
(.lt none (.bin .add) [.v 10,.v 11] 1 <|
(.leaf (.yield 0) [.v 15,.v 12,.v 13,.v 14] ()))))
(.leaf (.yield 0) [.v 5,.v 6,.v 7,.v 8] ()))) <|
(.lt none (.bin .rem) [.v 9,.v 0] 1 <|
(.leaf .ret [.v 13,.v 10,.v 11,.v 12] ()))))))
def tm7:Tm Unit :=
(.bind 0
(.lt none .len [.v 0] 1 <|
(.lt none (.bin .lss) [.v 1,.v 3] 1 <|
(.ite (.v 4)
(.lt none .inb [.v 0,.v 1] 0 <|
(.lt none (.row 1 0 [true]) [.v 0,.v 1] 1 <|
(.lt none (.conv .i64) [.v 5] 1 <|
(.leaf (.yield 0) [.v 6] ()))))
(.leaf (.yield 0) [.c (.int .i64 0)] ())))) <|
(.lt none (.bin .add) [.v 1,.c (.int .i64 1)] 1 <|
(.lt none (.bin .mul) [.v 2,.c (.int .u64 6364136223846793005)] 1 <|
(.lt none (.conv .u64) [.v 3] 1 <|
(.lt none (.bin .add) [.v 5,.v 6] 1 <|
(.lt none (.bin .add) [.v 7,.c (.int .u64 1442695040888963407)] 1 <|
(.lt none .len [.v 0] 1 <|
(.lt none (.bin .leq) [.v 4,.v 9] 1 <|
(.ite (.v 10)
(.leaf .ret [.v 3,.v 0,.v 4,.v 8] ())
(.lt none (.bin .shr) [.v 8,.c (.int .u64 40)] 1 <|
(.lt none (.bin .and) [.v 11,.c (.int .u64 255)] 1 <|
(.lt none (.conv .i64) [.v 12] 1 <|
(.leaf .ret [.v 13,.v 0,.v 4,.v 8] ())))))))))))))
def tm8:Tm Unit :=
(.call none 6 [.c (.int .i64 9),.v 0,.v 1,.v 2] 4 [] <|
(.lt none (.bin .add) [.c (.int .i64 1),.v 3] 1 <|
(.call none 6 [.c (.int .i64 4),.v 4,.v 5,.v 6] 4 [] <|
(.call none 6 [.c (.int .i64 30),.v 9,.v 10,.v 11] 4 [] <|
(.lt none (.bin .add) [.c (.int .i64 1),.v 12] 1 <|
(.lt none (.bin .add) [.v 8,.c (.int .i64 1)] 1 <|
(.call none 6 [.c (.int .i64 3),.v 13,.v 14,.v 15] 4 [] <|
(.lt none (.bin .add) [.v 17,.v 18] 1 <|
(.lt none (.bin .rem) [.v 22,.c (.int .i64 4)] 1 <|
(.call none 9 [.c (.int .i64 4),.v 19,.v 20,.v 21] 4 [] <|
(.ite (.v 24)
(.leaf .ret [.c (.int .i64 2),.v 7,.v 8,.c (.int .i64 0),.c (.int .i64 0),.v 25,.v 26,.v 27] ())
(.leaf .ret [.c (.int .i64 1),.v 7,.v 8,.v 23,.v 16,.v 25,.v 26,.v 27] ()))))))))))))
def tm9:Tm Unit :=
(.call none 6 [.v 0,.v 1,.v 2,.v 3] 4 [] <|
(.lt none (.bin .eql) [.v 4,.c (.int .i64 0)] 1 <|
(.leaf .ret [.v 8,.v 5,.v 6,.v 7] ())))
def Lbi:Tm Unit :=
(.call none 11 [.v 0] 2 [] <|
(.lt none .len [.v 1] 1 <|
(.bind 1
(.loop [.c (.int .i64 0),.v 9,.v 10]
(.lt none (.bin .lss) [.v 12,.v 11] 1 <|
(.ite (.v 15)
(.lt none .inb [.v 1,.v 12] 0 <|
(.lt none (.row 1 0 [false]) [.v 1,.v 12] 1 <|
(.lt none .len [.v 16] 1 <|
(.bind 3
(.loop [.c (.int .i64 0),.v 13,.v 14]
(.lt none (.bin .lss) [.v 18,.v 17] 1 <|
(.ite (.v 21)
(.bind 4
(.lt none .inb [.v 16,.v 18] 0 <|
(.lt none (.row 10 0 [true,true,true,true,true,true,true,true,true,false]) [.v 16,.v 18] 10 <|
(.lt none (.bin .eql) [.v 24,.c (.int .i64 0)] 1 <|
(.call (some (.v 32,false)) 12 [.v 2,.v 3,.v 4,.v 5,.v 6,.v 25,.v 26,.v 27,.v 28,.v 29] 1 [] <|
(.lt (some (.v 32,false)) .not [.v 33] 1 <|
(.lt none .pick [.v 32,.c (.bool true),.v 34] 1 <|
(.lt (some (.v 35,false)) .id [.v 12] 1 <|
(.lt (some (.v 35,false)) .id [.v 7] 1 <|
(.lt (some (.v 35,false)) (.bin .eql) [.v 36,.v 37] 1 <|
(.lt (some (.v 35,false)) .id [.v 38] 1 <|
(.lt (some (.v 39,true)) .id [.v 18] 1 <|
(.lt (some (.v 39,true)) (.bin .add) [.v 40,.c (.int .i64 1)] 1 <|
(.lt (some (.v 39,true)) .id [.v 8] 1 <|
(.lt (some (.v 39,true)) (.bin .eql) [.v 41,.v 42] 1 <|
(.lt (some (.v 35,false)) .pick [.v 39,.v 43,.c (.bool false)] 1 <|
(.lt none .pick [.v 35,.c (.bool true),.v 44] 1 <|
(.ite (.v 45)
(.leaf (.yield 4) [.c .undef,.c .undef,.c .undef,.c .undef,.c .undef,.c .undef,.c .undef,.c .undef,.c .undef,.c .undef,.c .undef,.v 19,.v 20] ())
(.lt none (.bin .add) [.v 18,.c (.int .i64 1)] 1 <|
(.lt none .inb [.v 20,.v 12] 0 <|
(.lt none (.set 1 0 1) [.v 20,.v 12,.v 46] 1 <|
(.call none 16 [.v 19,.v 30] 1 [] <|
(.leaf (.yield 4) [.c .undef,.c .undef,.c .undef,.c .undef,.c .undef,.c .undef,.c .undef,.c .undef,.c .undef,.c .undef,.c .undef,.v 48,.v 47] ())))))))))))))))))))))) <|
(.lt none (.bin .add) [.v 18,.c (.int .i64 1)] 1 <|
(.leaf .cont [.v 35,.v 33,.v 34] ())))
(.leaf (.yield 3) [.v 19,.v 20] ())))) <|
(.lt none (.bin .add) [.v 12,.c (.int .i64 1)] 1 <|
(.leaf .cont [.v 20,.v 18,.v 19] ()))))))
(.leaf (.yield 1) [.v 13,.v 14] ())))) <|
(.lt none (.bin .add) [.v 12,.c (.int .i64 1)] 1 <|
(.leaf .ret [.v 14,.v 13] ())))))
def Gbf:Tm Unit :=
(.lt none (.make 8 [(.int .i64 0)]) [.v 0] 1 <|
(.leaf .ret [.c (.int .i64 0),.v 1] ()))
def Lbh:Tm Unit :=
(.call none 13 [.v 0,.v 1,.v 2,.v 3,.v 4] 1 [] <|
(.lt none .len [.v 10] 1 <|
(.bind 1
(.loop [.c (.int .i64 0)]
(.lt none (.bin .lss) [.v 12,.v 11] 1 <|
(.ite (.v 13)
(.lt none .inb [.v 10,.v 12] 0 <|
(.lt none (.row 1 0 [true]) [.v 10,.v 12] 1 <|
(.call none 13 [.v 5,.v 6,.v 7,.v 8,.v 9] 1 [] <|
(.call none 15 [.v 15,.v 14] 1 [] <|
(.ite (.v 16)
(.leaf .ret [.c (.bool true)] ())
(.lt none (.bin .add) [.v 12,.c (.int .i64 1)] 1 <|
(.leaf .cont [.v 17] ())))))))
(.leaf (.yield 1) [] ())))) <|
(.leaf .ret [.c (.bool false)] ()))))
def Lbg:Tm Unit :=
(.lt none (.bin .eql) [.v 0,.c (.int .i64 1)] 1 <|
(.ite (.v 5)
(.lt none (.mk 1 1) [.v 2] 1 <|
(.call none 14 [.v 6,.v 3] 1 [] <|
(.leaf .ret [.v 7] ())))
(.lt none (.bin .eql) [.v 0,.c (.int .i64 2)] 1 <|
(.ite (.v 6)
(.lt none (.mk 1 1) [.v 2] 1 <|
(.leaf .ret [.v 7] ()))
(.leaf .ret [.c (.rows 1 [])] ())))))
def Lbf:Tm Unit :=
(.bind 1
(.loop [.c (.int .i64 0)]
(.lt none .len [.v 0] 1 <|
(.lt none (.bin .lss) [.v 2,.v 3] 1 <|
(.lt (some (.v 4,true)) .id [.v 2] 1 <|
(.lt (some (.v 4,true)) .inb [.v 0,.v 5] 0 <|
(.lt (some (.v 4,true)) (.row 1 0 [true]) [.v 0,.v 5] 1 <|
(.lt (some (.v 4,true)) .id [.v 1] 1 <|
(.lt (some (.v 4,true)) (.bin .lss) [.v 6,.v 7] 1 <|
(.lt none .pick [.v 4,.v 8,.c (.bool false)] 1 <|
(.ite (.v 9)
(.lt none (.bin .add) [.v 2,.c (.int .i64 1)] 1 <|
(.leaf .cont [.v 10] ()))
(.leaf (.yield 1) [.v 2] ()))))))))))) <|
(.lt none .len [.v 0] 1 <|
(.lt none (.bin .lss) [.v 2,.v 3] 1 <|
(.lt (some (.v 4,true)) .id [.v 2] 1 <|
(.lt (some (.v 4,true)) .inb [.v 0,.v 5] 0 <|
(.lt (some (.v 4,true)) (.row 1 0 [true]) [.v 0,.v 5] 1 <|
(.lt (some (.v 4,true)) .id [.v 1] 1 <|
(.lt (some (.v 4,true)) (.bin .eql) [.v 6,.v 7] 1 <|
(.lt none .pick [.v 4,.v 8,.c (.bool false)] 1 <|
(.ite (.v 9)
(.leaf .ret [.v 0] ())
(.lt none (.mk 1 0) [] 1 <|
(.lt none (.sub 1 false) [.v 0,.c (.int .i64 0),.v 2] 1 <|
(.lt none (.app 1 8 true) [.v 10,.v 11] 1 <|
(.lt none (.mk 1 1) [.v 1] 1 <|
(.lt none (.app 1 8 true) [.v 12,.v 13] 1 <|
(.lt none .len [.v 0] 1 <|
(.lt none (.sub 1 false) [.v 0,.v 2,.v 15] 1 <|
(.lt none (.app 1 8 true) [.v 14,.v 16] 1 <|
(.leaf .ret [.v 17] ())))))))))))))))))))
def Lbe:Tm Unit :=
(.lt none .len [.v 0] 1 <|
(.bind 1
(.loop [.c (.int .i64 0)]
(.lt none (.bin .lss) [.v 3,.v 2] 1 <|
(.ite (.v 4)
(.lt none .inb [.v 0,.v 3] 0 <|
(.lt none (.row 1 0 [true]) [.v 0,.v 3] 1 <|
(.lt none (.bin .eql) [.v 5,.v 1] 1 <|
(.ite (.v 6)
(.leaf .ret [.c (.bool true)] ())
(.lt none (.bin .add) [.v 3,.c (.int .i64 1)] 1 <|
(.leaf .cont [.v 7] ()))))))
(.leaf (.yield 1) [] ())))) <|
(.leaf .ret [.c (.bool false)] ())))
def Lbd:Tm Unit :=
(.lt none (.bin .gtr) [.v 0,.v 1] 1 <|
(.ite (.v 2)
(.leaf .ret [.v 0] ())
(.leaf .ret [.v 1] ())))
def Lbc:Tm Unit :=
(.call none 18 [.v 0,.v 1] 2 [] <|
(.bind 1
(.loop [.v 15]
(.lt none .inb [.v 16,.v 2] 0 <|
(.lt none (.row 1 0 [false]) [.v 16,.v 2] 1 <|
(.lt none .len [.v 17] 1 <|
(.lt none (.bin .lss) [.v 18,.v 3] 1 <|
(.ite (.v 19)
(.lt none .inb [.v 16,.v 2] 0 <|
(.lt none (.row 1 0 [false]) [.v 16,.v 2] 1 <|
(.call none 11 [.v 0] 2 [] <|
(.lt none (.mk 10 1) [.c (.int .i64 0),.c (.int .i64 0),.c (.int .i64 0),.c (.int .i64 0),.c (.int .i64 0),.c (.int .i64 0),.c (.int .i64 0),.c (.int .i64 0),.v 21,.v 22] 1 <|
(.lt none (.set 1 0 1) [.v 16,.v 2,.c .hole] 1 <|
(.lt none (.app 10 96 false) [.v 20,.v 23] 1 <|
(.lt none .inb [.v 24,.v 2] 0 <|
(.lt none (.set 1 0 1) [.v 24,.v 2,.v 25] 1 <|
(.leaf .cont [.v 26] ())))))))))
(.leaf (.yield 1) [.v 16] ()))))))) <|
(.lt none .inb [.v 16,.v 2] 0 <|
(.lt none (.row 1 0 [false]) [.v 16,.v 2] 1 <|
(.lt none (.bin .sub) [.v 3,.c (.int .i64 1)] 1 <|
(.call none 19 [.v 4,.v 5,.v 6,.v 7,.v 8,.v 9,.v 10,.v 11,.v 12,.v 13] 10 [] <|
(.lt none .inb [.v 17,.v 18] 0 <|
(.lt none (.set 10 0 10) [.v 17,.v 18,.v 19,.v 20,.v 21,.v 22,.v 23,.v 24,.v 25,.v 26,.v 27,.v 28] 1 <|
(.lt none (.set 1 0 1) [.v 16,.v 2,.v 29] 1 <|
(.leaf .ret [.v 14,.v 30] ()))))))))))
def Lbb:Tm Unit :=
(.call none 5 [.v 0] 2 [] <|
(.lt none .len [.v 1] 1 <|
(.bind 1
(.loop [.c (.int .i64 0),.v 3]
(.lt none (.bin .lss) [.v 5,.v 4] 1 <|
(.ite (.v 7)
(.lt none .inb [.v 1,.v 5] 0 <|
(.lt none (.row 1 0 [false]) [.v 1,.v 5] 1 <|
(.lt none .len [.v 8] 1 <|
(.bind 3
(.loop [.c (.int .i64 0),.v 6]
(.lt none (.bin .lss) [.v 10,.v 9] 1 <|
(.ite (.v 12)
(.lt none .inb [.v 8,.v 10] 0 <|
(.lt none (.row 10 0 [true,true,true,true,true,true,true,true,true,false]) [.v 8,.v 10] 10 <|
(.lt none .inb [.v 11,.v 5] 0 <|
(.lt none (.row 1 0 [false]) [.v 11,.v 5] 1 <|
(.call none 19 [.v 13,.v 14,.v 15,.v 16,.v 17,.v 18,.v 19,.v 20,.v 21,.v 22] 10 [] <|
(.lt none (.mk 10 1) [.v 24,.v 25,.v 26,.v 27,.v 28,.v 29,.v 30,.v 31,.v 32,.v 33] 1 <|
(.lt none (.set 1 0 1) [.v 11,.v 5,.c .hole] 1 <|
(.lt none (.app 10 96 false) [.v 23,.v 34] 1 <|
(.lt none .inb [.v 35,.v 5] 0 <|
(.lt none (.set 1 0 1) [.v 35,.v 5,.v 36] 1 <|
(.lt none (.bin .add) [.v 10,.c (.int .i64 1)] 1 <|
(.leaf .cont [.v 38,.v 37] ()))))))))))))
(.leaf (.yield 3) [.v 11] ())))) <|
(.lt none (.bin .add) [.v 5,.c (.int .i64 1)] 1 <|
(.leaf .cont [.v 11,.v 10] ()))))))
(.leaf (.yield 1) [.v 6] ())))) <|
(.leaf .ret [.v 2,.v 5] ()))))
def Lba:Tm Unit :=
(.call none 20 [.v 8,.v 9] 2 [] <|
(.leaf .ret [.v 0,.v 1,.v 2,.v 3,.v 4,.v 5,.v 6,.v 7,.v 10,.v 11] ()))
def Kb9:Tm Unit :=
(.call none 21 [.v 1] 1 [] <|
(.leaf .ret [.v 0,.v 2] ()))
def Kb8:Tm Unit :=
(.lt none (.mk 1 0) [] 1 <|
(.lt none (.app 1 8 true) [.v 1,.v 0] 1 <|
(.leaf .ret [.v 2] ())))
def Kb7:Tm Unit :=
(.lt none (.mk 1 4) [.c (.int .i64 3),.c (.int .i64 3),.c (.int .i64 3),.c (.int .i64 5)] 1 <|
(.call none 23 [.v 3,.v 0,.v 1,.v 2] 4 [] <|
(.call none 5 [.v 4] 2 [] <|
(.lt none .len [.v 9] 1 <|
(.bind 1
(.loop [.c (.int .i64 0),.v 5,.v 6,.v 7,.v 9]
(.lt none (.bin .lss) [.v 11,.v 10] 1 <|
(.ite (.v 16)
(.call none 6 [.c (.int .i64 4),.v 12,.v 13,.v 14] 4 [] <|
(.bind 3
(.loop [.v 17,.v 18,.v 19,.v 20,.v 15]
(.lt none (.bin .gtr) [.v 21,.c (.int .i64 0)] 1 <|
(.ite (.v 26)
(.lt none .inb [.v 25,.v 11] 0 <|
(.lt none (.row 1 0 [false]) [.v 25,.v 11] 1 <|
(.call none 24 [.v 4,.v 22,.v 23,.v 24] 13 [] <|
(.lt none (.mk 10 1) [.v 28,.v 29,.v 30,.v 31,.v 32,.v 33,.v 34,.v 35,.v 36,.v 37] 1 <|
(.lt none (.set 1 0 1) [.v 25,.v 11,.c .hole] 1 <|
(.lt none (.app 10 96 false) [.v 27,.v 41] 1 <|
(.lt none .inb [.v 42,.v 11] 0 <|
(.lt none (.set 1 0 1) [.v 42,.v 11,.v 43] 1 <|
(.lt none (.bin .sub) [.v 21,.c (.int .i64 1)] 1 <|
(.leaf .cont [.v 45,.v 38,.v 39,.v 40,.v 44] ()))))))))))
(.leaf (.yield 3) [.v 22,.v 23,.v 24,.v 25] ())))) <|
(.lt none (.bin .add) [.v 11,.c (.int .i64 1)] 1 <|
(.leaf .cont [.v 25,.v 21,.v 22,.v 23,.v 24] ()))))
(.leaf (.yield 1) [.v 12,.v 13,.v 14,.v 15] ())))) <|
(.bind 0
(.call none 6 [.c (.int .i64 40),.v 11,.v 12,.v 13] 4 [] <|
(.lt none (.bin .eql) [.v 15,.c (.int .i64 0)] 1 <|
(.ite (.v 19)
(.call none 6 [.c (.int .i64 6),.v 16,.v 17,.v 18] 4 [] <|
(.leaf (.yield 0) [.v 21,.v 22,.v 23,.v 20,.v 14] ()))
(.lt none (.bin .eql) [.v 15,.c (.int .i64 1)] 1 <|
(.ite (.v 20)
(.lt none .inb [.v 14,.c (.int .i64 0)] 0 <|
(.lt none (.row 1 0 [false]) [.v 14,.c (.int .i64 0)] 1 <|
(.lt none (.mk 10 1) [.c (.int .i64 0),.c (.int .i64 1),.c (.int .i64 0),.c (.int .i64 0),.c (.int .i64 0),.c (.int .i64 0),.c (.int .i64 0),.c (.int .i64 0),.c (.int .i64 0),.c (.rows 1 [])] 1 <|
(.lt none (.set 1 0 1) [.v 14,.c (.int .i64 0),.c .hole] 1 <|
(.lt none (.app 10 96 false) [.v 21,.v 22] 1 <|
(.lt none .inb [.v 23,.c (.int .i64 0)] 0 <|
(.lt none (.set 1 0 1) [.v 23,.c (.int .i64 0),.v 24] 1 <|
(.leaf (.yield 0) [.v 16,.v 17,.v 18,.v 8,.v 25] ()))))))))
(.leaf (.yield 0) [.v 16,.v 17,.v 18,.v 8,.v 14] ())))))) <|
(.leaf .ret [.v 18,.v 19,.v 15,.v 16,.v 17] ())))))))
def Kb6:Tm Unit :=
(.lt none .len [.v 0] 1 <|
(.call none 6 [.v 4,.v 1,.v 2,.v 3] 4 [] <|
(.lt none .inb [.v 0,.v 5] 0 <|
(.lt none (.row 1 0 [true]) [.v 0,.v 5] 1 <|
(.leaf .ret [.v 9,.v 6,.v 7,.v 8] ())))))
def Kb5:Tm Unit :=
(.lt none (.mk 1 5) [.c (.int .i64 0),.c (.int .i64 0),.c (.int .i64 8),.c (.int .i64 9),.c (.int .i64 17)] 1 <|
(.call none 23 [.v 4,.v 1,.v 2,.v 3] 4 [] <|
(.call none 6 [.c (.int .i64 4),.v 6,.v 7,.v 8] 4 [] <|
(.call none 8 [.v 10,.v 11,.v 12] 8 [] <|
(.call none 6 [.c (.int .i64 5),.v 18,.v 19,.v 20] 4 [] <|
(.bind 1
(.loop [.c (.int .i64 0),.v 22,.v 23,.v 24,.c (.rows 1 [])]
(.lt none (.bin .lss) [.v 25,.v 0] 1 <|
(.ite (.v 30)
(.call none 6 [.c (.int .i64 3),.v 26,.v 27,.v 28] 4 [] <|
(.lt none (.mk 1 1) [.v 31] 1 <|
(.lt none (.app 1 8 true) [.v 29,.v 35] 1 <|
(.lt none (.bin .add) [.v 25,.c (.int .i64 1)] 1 <|
(.leaf .cont [.v 37,.v 32,.v 33,.v 34,.v 36] ())))))
(.leaf (.yield 1) [.v 26,.v 27,.v 28,.v 29] ())))) <|
(.bind 0
(.call none 9 [.c (.int .i64 2),.v 25,.v 26,.v 27] 4 [] <|
(.ite (.v 29)
(.leaf (.yield 0) [.v 30,.v 31,.v 32,.v 5] ())
(.leaf (.yield 0) [.v 30,.v 31,.v 32,.c (.int .i64 0)] ()))) <|
(.bind 0
(.lt none (.bin .eql) [.v 9,.c (.int .i64 0)] 1 <|
(.ite (.v 33)
(.call none 11 [.v 0] 2 [] <|
(.leaf (.yield 0) [.c (.int .i64 0),.c (.int .i64 0),.c (.int .i64 0),.c (.int .i64 0),.c (.int .i64 0),.c (.int .i64 0),.c (.int .i64 0),.v 34,.v 35] ()))
(.leaf (.yield 0) [.v 32,.v 9,.v 13,.v 14,.v 15,.v 16,.v 17,.v 21,.v 28] ()))) <|
(.leaf .ret [.v 5,.v 33,.v 34,.v 35,.v 36,.v 37,.v 38,.v 39,.v 40,.v 41,.v 29,.v 30,.v 31] ())))))))))
def Kb4:Tm Unit :=
(.call none 26 [.v 0,.v 1] 1 [] <|
(.lt none .not [.v 2] 1 <|
(.ite (.v 3)
(.leaf .ret [.c (.bool false),.c (.bool false)] ())
(.call none 45 [.v 0,.v 1] 1 [] <|
(.leaf .ret [.v 4,.c (.bool true)] ())))))
def Kb3:Tm Unit :=
(.call none 27 [.v 0] 1 [] <|
(.lt (some (.v 2,true)) .len [.v 1] 1 <|
(.lt (some (.v 2,true)) .id [.v 0] 1 <|
(.lt (some (.v 2,true)) (.bin .eql) [.v 3,.v 4] 1 <|
(.lt none .pick [.v 2,.v 5,.c (.bool false)] 1 <|
(.call (some (.v 6,true)) 28 [.v 1,.v 0,.v 1] 1 [] <|
(.lt (some (.v 6,true)) .not [.v 7] 1 <|
(.lt none .pick [.v 6,.v 8,.c (.bool false)] 1 <|
(.leaf .ret [.v 9] ())))))))))
def Kb2:Tm Unit :=
(.lt none (.bin .eql) [.v 0,.c (.int .i64 3)] 1 <|
(.lt (some (.v 1,false)) .id [.v 0] 1 <|
(.lt (some (.v 1,false)) (.bin .eql) [.v 2,.c (.int .i64 5)] 1 <|
(.lt none .pick [.v 1,.c (.bool true),.v 3] 1 <|
(.leaf .ret [.v 4] ())))))
def Kb1:Tm Unit :=
(.call none 29 [.v 0,.v 1,.v 2] 1 [] <|
(.lt none (.bin .geq) [.v 3,.c (.int .i64 0)] 1 <|
(.leaf .ret [.v 4] ())))
def Kb0:Tm Unit :=
(.lt none .len [.v 0] 1 <|
(.bind 1
(.loop [.c (.int .i64 0)]
(.lt none (.bin .lss) [.v 4,.v 3] 1 <|
(.ite (.v 5)
(.lt none .inb [.v 0,.v 4] 0 <|
(.lt none (.row 1 0 [false]) [.v 0,.v 4] 1 <|
(.call none 30 [.v 6,.v 1,.v 2] 1 [] <|
(.ite (.v 7)
(.leaf .ret [.v 4] ())
(.lt none (.bin .add) [.v 4,.c (.int .i64 1)] 1 <|
(.leaf .cont [.v 8] ()))))))
(.leaf (.yield 1) [] ())))) <|
(.leaf .ret [.c (.int .i64 (-1))] ())))
def Kbz:Tm Unit :=
(.lt none .len [.v 0] 1 <|
(.lt none (.bin .gtr) [.v 3,.c (.int .i64 6)] 1 <|
(.call (some (.v 4,false)) 31 [.v 0,.v 1,.v 2] 1 [] <|
(.lt none .pick [.v 4,.c (.bool true),.v 5] 1 <|
(.leaf .ret [.v 6] ())))))
def Kby:Tm Unit :=
(.call none 32 [.v 0,.v 1,.v 2] 1 [] <|
(.lt none (.bin .geq) [.v 3,.c (.int .i64 0)] 1 <|
(.leaf .ret [.v 4] ())))
def Kbx:Tm Unit :=
(.lt none .len [.v 0] 1 <|
(.bind 1
(.loop [.c (.int .i64 0)]
(.lt none (.bin .lss) [.v 4,.v 3] 1 <|
(.ite (.v 5)
(.lt none .inb [.v 0,.v 4] 0 <|
(.lt none (.row 10 0 [true,true,true,true,true,true,true,true,true,false]) [.v 0,.v 4] 10 <|
(.call none 33 [.v 6,.v 7,.v 8,.v 9,.v 10,.v 11,.v 12,.v 13,.v 14,.v 15,.v 1,.v 2] 1 [] <|
(.ite (.v 16)
(.leaf .ret [.v 4] ())
(.lt none (.bin .add) [.v 4,.c (.int .i64 1)] 1 <|
(.leaf .cont [.v 17] ()))))))
(.leaf (.yield 1) [] ())))) <|
(.leaf .ret [.c (.int .i64 (-1))] ())))
def Kbw:Tm Unit :=
(.call none 34 [.v 10,.v 0,.v 1,.v 2,.v 3,.v 4,.v 5,.v 6,.v 7,.v 8,.v 9] 1 [] <|
(.lt none .not [.v 12] 1 <|
(.leaf .ret [.v 13] ())))
def Kbv:Tm Unit :=
(.call none 35 [.v 1,.c (.int .i64 0),.c (.int .i64 9999)] 1 [] <|
(.lt none .not [.v 11] 1 <|
(.lt (some (.v 12,false)) .id [.v 2] 1 <|
(.lt (some (.v 12,false)) .id [.v 1] 1 <|
(.call (some (.v 12,false)) 35 [.v 13,.c (.int .i64 0),.v 14] 1 [] <|
(.lt (some (.v 12,false)) .not [.v 15] 1 <|
(.lt none .pick [.v 12,.c (.bool true),.v 16] 1 <|
(.lt (some (.v 17,false)) .id [.v 3] 1 <|
(.call (some (.v 17,false)) 35 [.v 18,.c (.int .i64 0),.c (.int .i64 3)] 1 [] <|
(.lt (some (.v 17,false)) .not [.v 19] 1 <|
(.lt none .pick [.v 17,.c (.bool true),.v 20] 1 <|
(.call (some (.v 21,false)) 36 [.v 4,.v 5,.v 6,.v 7,.v 8] 1 [] <|
(.lt (some (.v 21,false)) .not [.v 22] 1 <|
(.lt none .pick [.v 21,.c (.bool true),.v 23] 1 <|
(.lt (some (.v 24,false)) .id [.v 0] 1 <|
(.call (some (.v 24,false)) 38 [.v 25,.v 9,.v 10] 1 [] <|
(.lt (some (.v 24,false)) .not [.v 26] 1 <|
(.lt none .pick [.v 24,.c (.bool true),.v 27] 1 <|
(.ite (.v 28)
(.leaf .ret [.c (.bool false)] ())
(.lt none (.bin .neq) [.v 3,.c (.int .i64 0)] 1 <|
(.lt (some (.v 29,false)) .id [.v 2] 1 <|
(.lt (some (.v 29,false)) (.bin .eql) [.v 30,.c (.int .i64 0)] 1 <|
(.lt (some (.v 29,false)) .id [.v 31] 1 <|
(.lt (some (.v 32,true)) (.eqs [0,0,0,0,0]) [.v 4,.v 5,.v 6,.v 7,.v 8,.c (.int .i64 0),.c (.int .i64 0),.c (.int .i64 0),.c (.int .i64 0),.c (.int .i64 0)] 1 <|
(.lt (some (.v 29,false)) .pick [.v 32,.v 33,.c (.bool false)] 1 <|
(.lt (some (.v 29,false)) .id [.v 34] 1 <|
(.lt (some (.v 35,true)) .id [.v 0] 1 <|
(.call (some (.v 35,true)) 42 [.v 36] 2 [] <|
(.call (some (.v 35,true)) 43 [.v 9,.v 10,.v 37,.v 38] 1 [] <|
(.lt (some (.v 29,false)) .pick [.v 35,.v 39,.c (.bool false)] 1 <|
(.lt none .pick [.v 29,.c (.bool true),.v 40] 1 <|
(.leaf .ret [.v 41] ()))))))))))))))))))))))))))))))))
def Kbu:Tm Unit :=
(.lt none (.bin .leq) [.v 1,.v 0] 1 <|
(.lt (some (.v 3,true)) .id [.v 0] 1 <|
(.lt (some (.v 3,true)) .id [.v 2] 1 <|
(.lt (some (.v 3,true)) (.bin .leq) [.v 4,.v 5] 1 <|
(.lt none .pick [.v 3,.v 6,.c (.bool false)] 1 <|
(.leaf .ret [.v 7] ()))))))
def Kbt:Tm Unit :=
(.lt none (.bin .eql) [.v 0,.c (.int .i64 0)] 1 <|
(.ite (.v 5)
(.lt none (.eqs [0,0,0,0,0]) [.v 0,.v 1,.v 2,.v 3,.v 4,.c (.int .i64 0),.c (.int .i64 0),.c (.int .i64 0),.c (.int .i64 0),.c (.int .i64 0)] 1 <|
(.leaf .ret [.v 6] ()))
(.lt none (.bin .eql) [.v 0,.c (.int .i64 1)] 1 <|
(.ite (.v 6)
(.call none 35 [.v 1,.c (.int .i64 1),.c (.int .i64 999)] 1 [] <|
(.lt (some (.v 7,true)) .id [.v 2] 1 <|
(.call (some (.v 7,true)) 37 [.v 8] 1 [] <|
(.lt none .pick [.v 7,.v 9,.c (.bool false)] 1 <|
(.lt (some (.v 10,true)) .id [.v 3] 1 <|
(.call (some (.v 10,true)) 37 [.v 11] 1 [] <|
(.lt none .pick [.v 10,.v 12,.c (.bool false)] 1 <|
(.lt (some (.v 13,true)) .id [.v 2] 1 <|
(.lt (some (.v 13,true)) .id [.v 3] 1 <|
(.lt (some (.v 13,true)) (.bin .neq) [.v 14,.v 15] 1 <|
(.lt none .pick [.v 13,.v 16,.c (.bool false)] 1 <|
(.lt (some (.v 17,true)) .id [.v 4] 1 <|
(.call (some (.v 17,true)) 35 [.v 18,.c (.int .i64 1),.c (.int .i64 1000)] 1 [] <|
(.lt none .pick [.v 17,.v 19,.c (.bool false)] 1 <|
(.leaf .ret [.v 20] ())))))))))))))))
(.lt none (.bin .eql) [.v 0,.c (.int .i64 2)] 1 <|
(.lt (some (.v 7,true)) .id [.v 1] 1 <|
(.call (some (.v 7,true)) 35 [.v 8,.c (.int .i64 1),.c (.int .i64 999)] 1 [] <|
(.lt none .pick [.v 7,.v 9,.c (.bool false)] 1 <|
(.lt (some (.v 10,true)) .id [.v 2] 1 <|
(.call (some (.v 10,true)) 37 [.v 11] 1 [] <|
(.lt none .pick [.v 10,.v 12,.c (.bool false)] 1 <|
(.lt (some (.v 13,true)) .id [.v 3] 1 <|
(.lt (some (.v 13,true)) (.bin .eql) [.v 14,.c (.int .i64 0)] 1 <|
(.lt none .pick [.v 13,.v 15,.c (.bool false)] 1 <|
(.lt (some (.v 16,true)) .id [.v 4] 1 <|
(.lt (some (.v 16,true)) (.bin .eql) [.v 17,.c (.int .i64 0)] 1 <|
(.lt none .pick [.v 16,.v 18,.c (.bool false)] 1 <|
(.leaf .ret [.v 19] ()))))))))))))))))))
def Kbs:Tm Unit :=
(.call none 35 [.v 0,.c (.int .i64 0),.c (.int .i64 3)] 1 [] <|
(.leaf .ret [.v 1] ()))
def Kbr:Tm Unit :=
(.call none 27 [.v 0] 1 [] <|
(.lt (some (.v 3,true)) .id [.v 1] 1 <|
(.call (some (.v 3,true)) 35 [.v 4,.c (.int .i64 0),.c (.int .i64 999)] 1 [] <|
(.lt none .pick [.v 3,.v 5,.c (.bool false)] 1 <|
(.lt (some (.v 6,true)) .len [.v 2] 1 <|
(.lt (some (.v 6,true)) .id [.v 0] 1 <|
(.lt (some (.v 6,true)) (.bin .eql) [.v 7,.v 8] 1 <|
(.lt none .pick [.v 6,.v 9,.c (.bool false)] 1 <|
(.call (some (.v 10,true)) 39 [.v 2] 1 [] <|
(.lt (some (.v 10,true)) .not [.v 11] 1 <|
(.lt none .pick [.v 10,.v 12,.c (.bool false)] 1 <|
(.leaf .ret [.v 13] ()))))))))))))
def Kbq:Tm Unit :=
(.call none 40 [.v 0] 1 [] <|
(.lt none (.bin .geq) [.v 1,.c (.int .i64 0)] 1 <|
(.leaf .ret [.v 2] ())))
def Kbp:Tm Unit :=
(.lt none .len [.v 0] 1 <|
(.bind 1
(.loop [.c (.int .i64 0)]
(.lt none (.bin .lss) [.v 2,.v 1] 1 <|
(.ite (.v 3)
(.lt none .inb [.v 0,.v 2] 0 <|
(.lt none (.row 1 0 [true]) [.v 0,.v 2] 1 <|
(.call none 41 [.v 4] 1 [] <|
(.ite (.v 5)
(.leaf .ret [.v 2] ())
(.lt none (.bin .add) [.v 2,.c (.int .i64 1)] 1 <|
(.leaf .cont [.v 6] ()))))))
(.leaf (.yield 1) [] ())))) <|
(.leaf .ret [.c (.int .i64 (-1))] ())))
def Kbo:Tm Unit :=
(.call none 35 [.v 0,.c (.int .i64 0),.c (.int .i64 6)] 1 [] <|
(.lt none .not [.v 1] 1 <|
(.leaf .ret [.v 2] ())))
def Kbn:Tm Unit :=
(.lt none (.make 8 [(.int .i64 0)]) [.v 0] 1 <|
(.leaf .ret [.c (.int .i64 0),.v 1] ()))
def Kbm:Tm Unit :=
(.lt none (.bin .eql) [.v 0,.v 2] 1 <|
(.call (some (.v 4,true)) 44 [.v 1,.v 3] 1 [] <|
(.lt none .pick [.v 4,.v 5,.c (.bool false)] 1 <|
(.leaf .ret [.v 6] ()))))
def Kbl:Tm Unit :=
(.lt none .len [.v 0] 1 <|
(.lt none .len [.v 1] 1 <|
(.lt none (.bin .neq) [.v 2,.v 3] 1 <|
(.ite (.v 4)
(.leaf .ret [.c (.bool false)] ())
(.lt none .len [.v 0] 1 <|
(.bind 1
(.loop [.c (.int .i64 0)]
(.lt none (.bin .lss) [.v 6,.v 5] 1 <|
(.ite (.v 7)
(.lt none .inb [.v 0,.v 6] 0 <|
(.lt none (.row 1 0 [true]) [.v 0,.v 6] 1 <|
(.lt none .inb [.v 1,.v 6] 0 <|
(.lt none (.row 1 0 [true]) [.v 1,.v 6] 1 <|
(.lt none (.bin .neq) [.v 8,.v 9] 1 <|
(.ite (.v 10)
(.leaf .ret [.c (.bool false)] ())
(.lt none (.bin .add) [.v 6,.c (.int .i64 1)] 1 <|
(.leaf .cont [.v 11] ()))))))))
(.leaf (.yield 1) [] ())))) <|
(.leaf .ret [.c (.bool true)] ())))))))
def Kbk:Tm Unit :=
(.call none 46 [.v 0,.v 1] 1 [] <|
(.lt none .len [.v 2] 1 <|
(.bind 1
(.loop [.c (.int .i64 0)]
(.lt none (.bin .lss) [.v 4,.v 3] 1 <|
(.ite (.v 5)
(.lt none .inb [.v 2,.v 4] 0 <|
(.lt none (.row 1 0 [false]) [.v 2,.v 4] 1 <|
(.lt none (.sub 1 false) [.v 2,.c (.int .i64 0),.v 4] 1 <|
(.lt none .len [.v 7] 1 <|
(.bind 3
(.loop [.c (.int .i64 0)]
(.lt none (.bin .lss) [.v 9,.v 8] 1 <|
(.ite (.v 10)
(.lt none .inb [.v 7,.v 9] 0 <|
(.lt none (.row 1 0 [false]) [.v 7,.v 9] 1 <|
(.lt none .inb [.v 6,.c (.int .i64 0)] 0 <|
(.lt none (.row 1 0 [true]) [.v 6,.c (.int .i64 0)] 1 <|
(.lt none .inb [.v 6,.c (.int .i64 1)] 0 <|
(.lt none (.row 1 0 [true]) [.v 6,.c (.int .i64 1)] 1 <|
(.call none 49 [.v 0,.v 1,.v 12,.v 13] 10 [] <|
(.lt none .inb [.v 11,.c (.int .i64 0)] 0 <|
(.lt none (.row 1 0 [true]) [.v 11,.c (.int .i64 0)] 1 <|
(.lt none .inb [.v 11,.c (.int .i64 1)] 0 <|
(.lt none (.row 1 0 [true]) [.v 11,.c (.int .i64 1)] 1 <|
(.call none 49 [.v 0,.v 1,.v 24,.v 25] 10 [] <|
(.call none 53 [.v 17,.v 18,.v 19,.v 20,.v 21,.v 29,.v 30,.v 31,.v 32,.v 33] 1 [] <|
(.lt (some (.v 36,true)) .inb [.v 11,.c (.int .i64 1)] 0 <|
(.lt (some (.v 36,true)) (.row 1 0 [true]) [.v 11,.c (.int .i64 1)] 1 <|
(.lt (some (.v 36,true)) .inb [.v 11,.c (.int .i64 0)] 0 <|
(.lt (some (.v 36,true)) (.row 1 0 [true]) [.v 11,.c (.int .i64 0)] 1 <|
(.lt (some (.v 36,true)) .inb [.v 23,.v 38] 0 <|
(.lt (some (.v 36,true)) (.row 1 0 [true]) [.v 23,.v 38] 1 <|
(.lt (some (.v 36,true)) (.bin .gtr) [.v 37,.v 39] 1 <|
(.lt none .pick [.v 36,.v 40,.c (.bool false)] 1 <|
(.lt (some (.v 41,true)) .inb [.v 6,.c (.int .i64 1)] 0 <|
(.lt (some (.v 41,true)) (.row 1 0 [true]) [.v 6,.c (.int .i64 1)] 1 <|
(.lt (some (.v 41,true)) .inb [.v 6,.c (.int .i64 0)] 0 <|
(.lt (some (.v 41,true)) (.row 1 0 [true]) [.v 6,.c (.int .i64 0)] 1 <|
(.lt (some (.v 41,true)) .inb [.v 35,.v 43] 0 <|
(.lt (some (.v 41,true)) (.row 1 0 [true]) [.v 35,.v 43] 1 <|
(.lt (some (.v 41,true)) (.bin .gtr) [.v 42,.v 44] 1 <|
(.lt none .pick [.v 41,.v 45,.c (.bool false)] 1 <|
(.ite (.v 46)
(.leaf .ret [.c (.bool false)] ())
(.lt none (.bin .add) [.v 9,.c (.int .i64 1)] 1 <|
(.leaf .cont [.v 47] ()))))))))))))))))))))))))))))))))
(.leaf (.yield 3) [] ())))) <|
(.lt none (.bin .add) [.v 4,.c (.int .i64 1)] 1 <|
(.leaf .cont [.v 9] ())))))))
(.leaf (.yield 1) [] ())))) <|
(.leaf .ret [.c (.bool true)] ()))))
def Kbj:Tm Unit :=
(.lt none (.mk 1 0) [] 1 <|
(.call none 47 [.v 0,.v 1,.v 2] 1 [] <|
(.leaf .ret [.v 3] ())))
def Kbi:Tm Unit :=
(.lt none .len [.v 1] 1 <|
(.bind 1
(.loop [.c (.int .i64 0),.v 2]
(.lt none (.bin .lss) [.v 4,.v 3] 1 <|
(.ite (.v 6)
(.lt none .inb [.v 1,.v 4] 0 <|
(.lt none (.row 1 0 [false]) [.v 1,.v 4] 1 <|
(.lt none .len [.v 7] 1 <|
(.bind 3
(.loop [.c (.int .i64 0),.v 5]
(.lt none (.bin .lss) [.v 9,.v 8] 1 <|
(.ite (.v 11)
(.lt none .inb [.v 7,.v 9] 0 <|
(.lt none (.row 10 0 [true,true,true,true,true,true,true,true,true,false]) [.v 7,.v 9] 10 <|
(.lt none (.bin .add) [.v 9,.c (.int .i64 1)] 1 <|
(.call none 48 [.v 4,.v 22,.v 12,.v 13,.v 14,.v 15,.v 16,.v 17,.v 18,.v 19,.v 20,.v 21,.v 10] 1 [] <|
(.lt none (.bin .add) [.v 9,.c (.int .i64 1)] 1 <|
(.leaf .cont [.v 24,.v 23] ()))))))
(.leaf (.yield 3) [.v 10] ())))) <|
(.lt none (.bin .add) [.v 4,.c (.int .i64 1)] 1 <|
(.leaf .cont [.v 10,.v 9] ()))))))
(.leaf (.yield 1) [.v 5] ())))) <|
(.leaf .ret [.v 4] ())))
def Kbh:Tm Unit :=
(.lt none (.bin .eql) [.v 4,.c (.int .i64 3)] 1 <|
(.ite (.v 13)
(.lt none (.mk 1 2) [.v 0,.v 1] 1 <|
(.lt none (.mk 1 1) [.v 14] 1 <|
(.lt none (.app 1 24 false) [.v 12,.v 15] 1 <|
(.leaf .ret [.v 16] ()))))
(.leaf .ret [.v 12] ())))
def Kbg:Tm Unit :=
(.lt none .inb [.v 1,.v 2] 0 <|
(.lt none (.row 1 0 [false]) [.v 1,.v 2] 1 <|
(.lt none .len [.v 4] 1 <|
(.lt none (.bin .leq) [.v 3,.v 5] 1 <|
(.ite (.v 6)
(.lt none .inb [.v 1,.v 2] 0 <|
(.lt none (.row 1 0 [false]) [.v 1,.v 2] 1 <|
(.lt none (.bin .sub) [.v 3,.c (.int .i64 1)] 1 <|
(.lt none .inb [.v 7,.v 8] 0 <|
(.lt none (.row 10 0 [true,true,true,true,true,true,true,true,true,false]) [.v 7,.v 8] 10 <|
(.call none 50 [.v 9,.v 10,.v 11,.v 12,.v 13,.v 14,.v 15,.v 16,.v 17,.v 18] 10 [] <|
(.leaf .ret [.v 19,.v 20,.v 21,.v 22,.v 23,.v 24,.v 25,.v 26,.v 27,.v 28] ())))))))
(.call none 42 [.v 0] 2 [] <|
(.leaf .ret [.c (.int .i64 0),.c (.int .i64 0),.c (.int .i64 0),.c (.int .i64 0),.c (.int .i64 0),.c (.int .i64 0),.c (.int .i64 0),.c (.int .i64 0),.v 7,.v 8] ())))))))
def Kbf:Tm Unit :=
(.call none 51 [.v 8,.v 9] 2 [] <|
(.leaf .ret [.v 0,.v 1,.v 2,.v 3,.v 4,.v 5,.v 6,.v 7,.v 10,.v 11] ()))
def Kbe:Tm Unit :=
(.call none 52 [.v 1] 1 [] <|
(.leaf .ret [.v 0,.v 2] ()))
def Gbe:Tm Unit :=
(.lt none .ne [.v 0] 0 <|
(.lt none .emp [.v 0] 1 <|
(.ite (.v 1)
(.leaf .ret [.c (.rows 1 [])] ())
(.lt none (.mk 1 0) [] 1 <|
(.lt none (.app 1 8 true) [.v 2,.v 0] 1 <|
(.leaf .ret [.v 3] ()))))))
def Kbd:Tm Unit :=
(.call none 54 [.v 0,.v 1,.v 2,.v 3,.v 4] 1 [] <|
(.call none 55 [.v 10,.v 5,.v 6,.v 7,.v 8,.v 9] 1 [] <|
(.leaf .ret [.v 11] ())))
def Kbc:Tm Unit :=
(.lt none (.bin .eql) [.v 0,.c (.int .i64 1)] 1 <|
(.ite (.v 5)
(.lt none .min [.v 2,.v 3] 1 <|
(.lt none .max [.v 2,.v 3] 1 <|
(.lt none (.mk 1 2) [.v 6,.v 7] 1 <|
(.leaf .ret [.v 8] ()))))
(.lt none (.bin .eql) [.v 0,.c (.int .i64 2)] 1 <|
(.ite (.v 6)
(.lt none (.mk 1 1) [.v 2] 1 <|
(.leaf .ret [.v 7] ()))
(.lt none (.mk 1 0) [] 1 <|
(.leaf .ret [.v 7] ()))))))
def Kbb:Tm Unit :=
(.call none 56 [.v 0,.v 1,.v 2,.v 3,.v 4,.v 5] 1 [] <|
(.lt none (.bin .geq) [.v 6,.c (.int .i64 0)] 1 <|
(.leaf .ret [.v 7] ())))
def Kba:Tm Unit :=
(.lt none .len [.v 0] 1 <|
(.bind 1
(.loop [.c (.int .i64 0)]
(.lt none (.bin .lss) [.v 7,.v 6] 1 <|
(.ite (.v 8)
(.lt none .inb [.v 0,.v 7] 0 <|
(.lt none (.row 1 0 [true]) [.v 0,.v 7] 1 <|
(.call none 57 [.v 9,.v 1,.v 2,.v 3,.v 4,.v 5] 1 [] <|
(.ite (.v 10)
(.leaf .ret [.v 7] ())
(.lt none (.bin .add) [.v 7,.c (.int .i64 1)] 1 <|
(.leaf .cont [.v 11] ()))))))
(.leaf (.yield 1) [] ())))) <|
(.leaf .ret [.c (.int .i64 (-1))] ())))
def Jb9:Tm Unit :=
(.call none 54 [.v 1,.v 2,.v 3,.v 4,.v 5] 1 [] <|
(.call none 58 [.v 6,.v 0] 1 [] <|
(.leaf .ret [.v 7] ())))
def Jb8:Tm Unit :=
(.call none 59 [.v 0,.v 1] 1 [] <|
(.lt none (.bin .geq) [.v 2,.c (.int .i64 0)] 1 <|
(.leaf .ret [.v 3] ())))
def Jb7:Tm Unit :=
(.lt none .len [.v 0] 1 <|
(.bind 1
(.loop [.c (.int .i64 0)]
(.lt none (.bin .lss) [.v 3,.v 2] 1 <|
(.ite (.v 4)
(.lt none .inb [.v 0,.v 3] 0 <|
(.lt none (.row 1 0 [true]) [.v 0,.v 3] 1 <|
(.lt none (.bin .eql) [.v 1,.v 5] 1 <|
(.ite (.v 6)
(.leaf .ret [.v 3] ())
(.lt none (.bin .add) [.v 3,.c (.int .i64 1)] 1 <|
(.leaf .cont [.v 7] ()))))))
(.leaf (.yield 1) [] ())))) <|
(.leaf .ret [.c (.int .i64 (-1))] ())))
def Jb6:Tm Unit :=
(.call none 26 [.v 0,.v 1] 1 [] <|
(.lt none .not [.v 2] 1 <|
(.ite (.v 3)
(.leaf .ret [.c (.rows 1 []),.c (.bool false)] ())
(.call none 46 [.v 0,.v 1] 1 [] <|
(.leaf .ret [.v 4,.c (.bool true)] ())))))
def Jb5:Tm Unit :=
(.lt none .len [.v 0] 1 <|
(.bind 1
(.loop [.c (.int .i64 0),.c (.int .i64 0)]
(.lt none (.bin .lss) [.v 3,.v 1] 1 <|
(.ite (.v 4)
(.lt none .inb [.v 0,.v 3] 0 <|
(.lt none (.row 1 0 [true]) [.v 0,.v 3] 1 <|
(.lt none (.bin .mul) [.c (.int .i64 31),.v 2] 1 <|
(.lt none (.conv .i64) [.v 5] 1 <|
(.lt none (.bin .add) [.v 6,.v 7] 1 <|
(.lt none (.bin .rem) [.v 8,.c (.int .i64 1000003)] 1 <|
(.lt none (.bin .add) [.v 3,.c (.int .i64 1)] 1 <|
(.leaf .cont [.v 9,.v 10] ()))))))))
(.leaf (.yield 1) [.v 2] ())))) <|
(.leaf .ret [.v 2] ())))
def Jb4:Tm Unit :=
(.call none 27 [.v 0] 1 [] <|
(.lt none .not [.v 1] 1 <|
(.ite (.v 2)
(.leaf .ret [.c (.int .i64 0),.c (.rows 1 []),.c (.bool false)] ())
(.call none 63 [.v 0] 2 [] <|
(.leaf .ret [.v 3,.v 4,.c (.bool true)] ())))))
def Jb3:Tm Unit :=
(.lt none (.make 24 [(.rows 10 [])]) [.v 0] 1 <|
(.leaf .ret [.v 0,.v 1] ()))
def Jb2:Tm Unit :=
(.call none 26 [.v 0,.v 1] 1 [] <|
(.lt none .not [.v 4] 1 <|
(.lt (some (.v 5,false)) .id [.v 0] 1 <|
(.lt (some (.v 5,false)) .id [.v 2] 1 <|
(.lt (some (.v 5,false)) .id [.v 3] 1 <|
(.call (some (.v 5,false)) 65 [.v 6,.v 7,.v 8] 1 [] <|
(.lt (some (.v 5,false)) .not [.v 9] 1 <|
(.lt none .pick [.v 5,.c (.bool true),.v 10] 1 <|
(.ite (.v 11)
(.leaf .ret [.c (.int .i64 0),.c (.int .i64 0),.c (.int .i64 0),.c (.int .i64 0),.c (.int .i64 0),.c (.int .i64 0),.c (.int .i64 0),.c (.int .i64 0),.c (.int .i64 0),.c (.rows 1 []),.c (.bool false)] ())
(.call none 49 [.v 0,.v 1,.v 2,.v 3] 10 [] <|
(.leaf .ret [.v 12,.v 13,.v 14,.v 15,.v 16,.v 17,.v 18,.v 19,.v 20,.v 21,.c (.bool true)] ())))))))))))
def Jb1:Tm Unit :=
(.call none 27 [.v 0] 1 [] <|
(.lt (some (.v 3,true)) .id [.v 1] 1 <|
(.lt (some (.v 3,true)) .id [.v 0] 1 <|
(.lt (some (.v 3,true)) (.bin .sub) [.v 5,.c (.int .i64 1)] 1 <|
(.call (some (.v 3,true)) 35 [.v 4,.c (.int .i64 0),.v 6] 1 [] <|
(.lt none .pick [.v 3,.v 7,.c (.bool false)] 1 <|
(.lt (some (.v 8,true)) .id [.v 2] 1 <|
(.call (some (.v 8,true)) 35 [.v 9,.c (.int .i64 1),.c (.int .i64 6)] 1 [] <|
(.lt none .pick [.v 8,.v 10,.c (.bool false)] 1 <|
(.leaf .ret [.v 11] ()))))))))))
def Jb0:Tm Unit :=
(.call none 26 [.v 0,.v 1] 1 [] <|
(.lt none .not [.v 14] 1 <|
(.lt (some (.v 15,false)) .id [.v 0] 1 <|
(.lt (some (.v 15,false)) .id [.v 2] 1 <|
(.lt (some (.v 15,false)) .id [.v 3] 1 <|
(.call (some (.v 15,false)) 65 [.v 16,.v 17,.v 18] 1 [] <|
(.lt (some (.v 15,false)) .not [.v 19] 1 <|
(.lt none .pick [.v 15,.c (.bool true),.v 20] 1 <|
(.lt (some (.v 21,false)) .id [.v 0] 1 <|
(.call (some (.v 21,false)) 34 [.v 22,.v 4,.v 5,.v 6,.v 7,.v 8,.v 9,.v 10,.v 11,.v 12,.v 13] 1 [] <|
(.lt (some (.v 21,false)) .not [.v 23] 1 <|
(.lt none .pick [.v 21,.c (.bool true),.v 24] 1 <|
(.ite (.v 25)
(.leaf .ret [.c (.int .i64 0),.c (.rows 1 []),.c (.bool false)] ())
(.call none 67 [.v 0,.v 1] 2 [] <|
(.call none 69 [.v 2,.v 3,.v 4,.v 5,.v 6,.v 7,.v 8,.v 9,.v 10,.v 11,.v 12,.v 13,.v 26,.v 27] 2 [] <|
(.leaf .ret [.v 28,.v 29,.c (.bool true)] ()))))))))))))))))
def Jbz:Tm Unit :=
(.lt none .len [.v 1] 1 <|
(.bind 1
(.loop [.c (.int .i64 0),.c (.rows 1 [])]
(.lt none (.bin .lss) [.v 3,.v 2] 1 <|
(.ite (.v 5)
(.lt none .inb [.v 1,.v 3] 0 <|
(.lt none (.row 1 0 [false]) [.v 1,.v 3] 1 <|
(.call none 68 [.v 6] 1 [] <|
(.lt none (.mk 1 1) [.v 7] 1 <|
(.lt none (.app 1 24 false) [.v 4,.v 8] 1 <|
(.lt none (.bin .add) [.v 3,.c (.int .i64 1)] 1 <|
(.leaf .cont [.v 10,.v 9] ())))))))
(.leaf (.yield 1) [.v 4] ())))) <|
(.leaf .ret [.v 0,.v 3] ())))
def Jby:Tm Unit :=
(.lt none (.mk 10 0) [] 1 <|
(.lt none .len [.v 0] 1 <|
(.bind 1
(.loop [.v 1,.c (.int .i64 0)]
(.lt none (.bin .lss) [.v 4,.v 2] 1 <|
(.ite (.v 5)
(.lt none .inb [.v 0,.v 4] 0 <|
(.lt none (.row 10 0 [true,true,true,true,true,true,true,true,true,false]) [.v 0,.v 4] 10 <|
(.call none 50 [.v 6,.v 7,.v 8,.v 9,.v 10,.v 11,.v 12,.v 13,.v 14,.v 15] 10 [] <|
(.lt none (.mk 10 1) [.v 16,.v 17,.v 18,.v 19,.v 20,.v 21,.v 22,.v 23,.v 24,.v 25] 1 <|
(.lt none (.app 10 96 false) [.v 3,.v 26] 1 <|
(.lt none (.bin .add) [.v 4,.c (.int .i64 1)] 1 <|
(.leaf .cont [.v 27,.v 28] ())))))))
(.leaf (.yield 1) [.v 3] ())))) <|
(.leaf .ret [.v 3] ()))))
def Jbx:Tm Unit :=
(.bind 1
(.loop [.v 13]
(.lt none .inb [.v 14,.v 0] 0 <|
(.lt none (.row 1 0 [false]) [.v 14,.v 0] 1 <|
(.lt none .len [.v 15] 1 <|
(.lt none (.bin .lss) [.v 16,.v 1] 1 <|
(.ite (.v 17)
(.lt none .inb [.v 14,.v 0] 0 <|
(.lt none (.row 1 0 [false]) [.v 14,.v 0] 1 <|
(.call none 42 [.v 12] 2 [] <|
(.lt none (.mk 10 1) [.c (.int .i64 0),.c (.int .i64 0),.c (.int .i64 0),.c (.int .i64 0),.c (.int .i64 0),.c (.int .i64 0),.c (.int .i64 0),.c (.int .i64 0),.v 19,.v 20] 1 <|
(.lt none (.set 1 0 1) [.v 14,.v 0,.c .hole] 1 <|
(.lt none (.app 10 96 false) [.v 18,.v 21] 1 <|
(.lt none .inb [.v 22,.v 0] 0 <|
(.lt none (.set 1 0 1) [.v 22,.v 0,.v 23] 1 <|
(.leaf .cont [.v 24] ())))))))))
(.leaf (.yield 1) [.v 14] ()))))))) <|
(.lt none .inb [.v 14,.v 0] 0 <|
(.lt none (.row 1 0 [false]) [.v 14,.v 0] 1 <|
(.lt none (.bin .sub) [.v 1,.c (.int .i64 1)] 1 <|
(.call none 50 [.v 2,.v 3,.v 4,.v 5,.v 6,.v 7,.v 8,.v 9,.v 10,.v 11] 10 [] <|
(.lt none .inb [.v 15,.v 16] 0 <|
(.lt none (.set 10 0 10) [.v 15,.v 16,.v 17,.v 18,.v 19,.v 20,.v 21,.v 22,.v 23,.v 24,.v 25,.v 26] 1 <|
(.lt none (.set 1 0 1) [.v 14,.v 0,.v 27] 1 <|
(.leaf .ret [.v 12,.v 28] ())))))))))
def Jbw:Tm Unit :=
(.call none 26 [.v 0,.v 1] 1 [] <|
(.lt none .not [.v 2] 1 <|
(.ite (.v 3)
(.leaf .ret [.c (.rows 1 []),.c (.bool false)] ())
(.call none 71 [.v 0,.v 1] 1 [] <|
(.leaf .ret [.v 4,.c (.bool true)] ())))))
def Jbv:Tm Unit :=
(.call none 63 [.v 0] 2 [] <|
(.call none 72 [.v 0,.v 1] 1 [] <|
(.lt none .len [.v 4] 1 <|
(.bind 1
(.loop [.c (.int .i64 0),.v 2,.v 3]
(.lt none (.bin .lss) [.v 6,.v 5] 1 <|
(.ite (.v 9)
(.lt none .inb [.v 4,.v 6] 0 <|
(.lt none (.row 1 0 [false]) [.v 4,.v 6] 1 <|
(.lt none .inb [.v 10,.c (.int .i64 0)] 0 <|
(.lt none (.row 1 0 [true]) [.v 10,.c (.int .i64 0)] 1 <|
(.lt none .inb [.v 10,.c (.int .i64 1)] 0 <|
(.lt none (.row 1 0 [true]) [.v 10,.c (.int .i64 1)] 1 <|
(.lt none .inb [.v 10,.c (.int .i64 0)] 0 <|
(.lt none (.row 1 0 [true]) [.v 10,.c (.int .i64 0)] 1 <|
(.lt none .inb [.v 10,.c (.int .i64 1)] 0 <|
(.lt none (.row 1 0 [true]) [.v 10,.c (.int .i64 1)] 1 <|
(.call none 49 [.v 0,.v 1,.v 13,.v 14] 10 [] <|
(.call none 69 [.v 11,.v 12,.v 15,.v 16,.v 17,.v 18,.v 19,.v 20,.v 21,.v 22,.v 23,.v 24,.v 7,.v 8] 2 [] <|
(.lt none (.dep 99) [.v 26] 0 <|
(.lt none (.bin .add) [.v 6,.c (.int .i64 1)] 1 <|
(.leaf .cont [.v 27,.v 25,.v 26] ())))))))))))))))
(.leaf (.yield 1) [.v 7,.v 8] ())))) <|
(.call none 83 [.v 6,.v 7] 2 [] <|
(.lt none (.dep 99) [.v 8] 0 <|
(.lt none (.dep 99) [.v 9] 0 <|
(.lt none (.mk 1 0) [] 1 <|
(.lt none .len [.v 8] 1 <|
(.bind 3
(.loop [.v 10,.c (.int .i64 0)]
(.lt none (.bin .lss) [.v 13,.v 11] 1 <|
(.ite (.v 14)
(.lt none .inb [.v 8,.v 13] 0 <|
(.lt none (.row 1 0 [false]) [.v 8,.v 13] 1 <|
(.lt none .inb [.v 15,.c (.int .i64 0)] 0 <|
(.lt none (.row 1 0 [true]) [.v 15,.c (.int .i64 0)] 1 <|
(.lt none .inb [.v 15,.c (.int .i64 1)] 0 <|
(.lt none (.row 1 0 [true]) [.v 15,.c (.int .i64 1)] 1 <|
(.call none 49 [.v 6,.v 7,.v 16,.v 17] 10 [] <|
(.lt none (.dep 99) [.v 27] 0 <|
(.lt none (.bin .mul) [.c (.int .i64 100),.v 26] 1 <|
(.lt none .inb [.v 15,.c (.int .i64 0)] 0 <|
(.lt none (.row 1 0 [true]) [.v 15,.c (.int .i64 0)] 1 <|
(.lt none (.bin .mul) [.c (.int .i64 10),.v 29] 1 <|
(.lt none (.bin .add) [.v 28,.v 30] 1 <|
(.lt none .inb [.v 15,.c (.int .i64 1)] 0 <|
(.lt none (.row 1 0 [true]) [.v 15,.c (.int .i64 1)] 1 <|
(.lt none (.bin .add) [.v 31,.v 32] 1 <|
(.lt none (.mk 1 1) [.v 33] 1 <|
(.lt none (.app 1 8 true) [.v 12,.v 34] 1 <|
(.lt none (.bin .add) [.v 13,.c (.int .i64 1)] 1 <|
(.leaf .cont [.v 35,.v 36] ()))))))))))))))))))))
(.leaf (.yield 3) [.v 12] ())))) <|
(.lt none (.mk 1 0) [] 1 <|
(.call none 84 [.v 9,.v 12] 1 [] <|
(.lt none (.dep 99) [.v 14] 0 <|
(.lt none .len [.v 14] 1 <|
(.bind 5
(.loop [.v 8,.v 13,.c (.int .i64 0)]
(.lt none (.bin .lss) [.v 18,.v 15] 1 <|
(.ite (.v 19)
(.lt none .inb [.v 14,.v 18] 0 <|
(.lt none (.row 1 0 [true]) [.v 14,.v 18] 1 <|
(.lt none .inb [.v 16,.v 20] 0 <|
(.lt none (.row 1 0 [false]) [.v 16,.v 20] 1 <|
(.lt none (.set 1 0 1) [.v 16,.v 20,.c .hole] 1 <|
(.lt none (.mk 1 1) [.v 21] 1 <|
(.lt none (.app 1 24 false) [.v 17,.v 23] 1 <|
(.lt none (.bin .add) [.v 18,.c (.int .i64 1)] 1 <|
(.leaf .cont [.v 22,.v 24,.v 25] ())))))))))
(.leaf (.yield 5) [.v 17] ())))) <|
(.leaf .ret [.v 16] ()))))))))))))))))
def Jbu:Tm Unit :=
(.call none 46 [.v 0,.v 1] 1 [] <|
(.call none 73 [.v 2,.v 0,.v 1] 1 [] <|
(.leaf .ret [.v 3] ())))
def Jbt:Tm Unit :=
(.call none 74 [.v 0,.v 1,.v 2] 1 [] <|
(.lt none (.bin .eql) [.v 3,.c (.int .i64 (-1))] 1 <|
(.ite (.v 4)
(.leaf .ret [.v 0] ())
(.lt none (.bin .add) [.v 3,.c (.int .i64 1)] 1 <|
(.bind 1
(.loop [.v 0,.v 3,.v 5]
(.lt none .len [.v 6] 1 <|
(.lt none (.bin .lss) [.v 8,.v 9] 1 <|
(.ite (.v 10)
(.bind 0
(.lt none .inb [.v 6,.v 8] 0 <|
(.lt none (.row 1 0 [false]) [.v 6,.v 8] 1 <|
(.call none 75 [.v 11,.v 1,.v 2] 1 [] <|
(.lt none .not [.v 12] 1 <|
(.ite (.v 13)
(.lt none .inb [.v 6,.v 7] 0 <|
(.lt none (.set 1 0 1) [.v 6,.v 8,.c .hole] 1 <|
(.lt none (.set 1 0 1) [.v 14,.v 7,.v 11] 1 <|
(.lt none (.bin .add) [.v 7,.c (.int .i64 1)] 1 <|
(.leaf (.yield 0) [.v 15,.v 16] ())))))
(.leaf (.yield 0) [.v 6,.v 7] ())))))) <|
(.lt none (.bin .add) [.v 8,.c (.int .i64 1)] 1 <|
(.leaf .cont [.v 11,.v 12,.v 13] ())))
(.leaf (.yield 1) [.v 6,.v 7] ()))))) <|
(.lt none .len [.v 6] 1 <|
(.lt none (.sub 1 false) [.v 6,.v 7,.v 8] 1 <|
(.lt none (.clr 1) [.v 6,.v 7] 1 <|
(.lt none (.sub 1 false) [.v 10,.c (.int .i64 0),.v 7] 1 <|
(.leaf .ret [.v 11] ()))))))))))
def Jbs:Tm Unit :=
(.lt none .len [.v 0] 1 <|
(.bind 1
(.loop [.c (.int .i64 0)]
(.lt none (.bin .lss) [.v 4,.v 3] 1 <|
(.ite (.v 5)
(.lt none .inb [.v 0,.v 4] 0 <|
(.lt none (.row 1 0 [false]) [.v 0,.v 4] 1 <|
(.call none 75 [.v 6,.v 1,.v 2] 1 [] <|
(.ite (.v 7)
(.leaf .ret [.v 4] ())
(.lt none (.bin .add) [.v 4,.c (.int .i64 1)] 1 <|
(.leaf .cont [.v 8] ()))))))
(.leaf (.yield 1) [] ())))) <|
(.leaf .ret [.c (.int .i64 (-1))] ())))
def Jbr:Tm Unit :=
(.call none 76 [.v 1,.v 2,.v 0] 1 [] <|
(.lt none .len [.v 3] 1 <|
(.lt none (.bin .gtr) [.v 4,.c (.int .i64 0)] 1 <|
(.leaf .ret [.v 5] ()))))
def Jbq:Tm Unit :=
(.lt none (.mk 1 1) [.v 2] 1 <|
(.lt none (.mk 1 0) [] 1 <|
(.lt none (.mk 1 1) [.v 2] 1 <|
(.bind 1
(.loop [.v 3,.v 4,.v 5]
(.lt none .len [.v 8] 1 <|
(.lt none (.bin .gtr) [.v 9,.c (.int .i64 0)] 1 <|
(.ite (.v 10)
(.lt none .inb [.v 8,.c (.int .i64 0)] 0 <|
(.lt none (.row 1 0 [false]) [.v 8,.c (.int .i64 0)] 1 <|
(.lt none .inb [.v 11,.c (.int .i64 0)] 0 <|
(.lt none (.row 1 0 [true]) [.v 11,.c (.int .i64 0)] 1 <|
(.lt none .inb [.v 8,.c (.int .i64 0)] 0 <|
(.lt none (.row 1 0 [false]) [.v 8,.c (.int .i64 0)] 1 <|
(.lt none .inb [.v 13,.c (.int .i64 1)] 0 <|
(.lt none (.row 1 0 [true]) [.v 13,.c (.int .i64 1)] 1 <|
(.call none 49 [.v 0,.v 1,.v 12,.v 14] 10 [] <|
(.call none 77 [.v 23,.v 24] 1 [] <|
(.lt none (.dep 99) [.v 25] 0 <|
(.lt none .len [.v 25] 1 <|
(.bind 3
(.loop [.v 6,.v 7,.v 8,.v 25,.c (.int .i64 0)]
(.lt none (.bin .lss) [.v 31,.v 26] 1 <|
(.ite (.v 32)
(.bind 4
(.lt none .inb [.v 30,.v 31] 0 <|
(.lt none (.row 1 0 [false]) [.v 30,.v 31] 1 <|
(.call none 78 [.v 27,.v 33] 1 [] <|
(.ite (.v 34)
(.leaf (.yield 4) [.v 27,.v 28,.v 29] ())
(.lt none (.mk 1 1) [.v 33] 1 <|
(.lt none (.app 1 24 false) [.v 27,.v 35] 1 <|
(.lt none .inb [.v 33,.c (.int .i64 0)] 0 <|
(.lt none (.row 1 0 [true]) [.v 33,.c (.int .i64 0)] 1 <|
(.lt none .inb [.v 33,.c (.int .i64 1)] 0 <|
(.lt none (.row 1 0 [true]) [.v 33,.c (.int .i64 1)] 1 <|
(.call none 49 [.v 0,.v 1,.v 37,.v 38] 10 [] <|
(.lt none (.bin .eql) [.v 41,.c (.int .i64 3)] 1 <|
(.ite (.v 49)
(.lt none (.mk 1 1) [.v 33] 1 <|
(.lt none (.app 1 24 false) [.v 29,.v 50] 1 <|
(.leaf (.yield 4) [.v 36,.v 28,.v 51] ())))
(.lt none (.mk 1 1) [.v 33] 1 <|
(.lt none (.app 1 24 false) [.v 28,.v 50] 1 <|
(.leaf (.yield 4) [.v 36,.v 51,.v 29] ())))))))))))))))) <|
(.lt none (.bin .add) [.v 31,.c (.int .i64 1)] 1 <|
(.leaf .cont [.v 33,.v 34,.v 35,.v 30,.v 36] ())))
(.leaf (.yield 3) [.v 27,.v 28,.v 29] ())))) <|
(.lt none .len [.v 29] 1 <|
(.lt none (.sub 1 false) [.v 29,.c (.int .i64 1),.v 30] 1 <|
(.leaf .cont [.v 27,.v 28,.v 31] ()))))))))))))))))
(.leaf (.yield 1) [.v 7] ()))))) <|
(.call none 82 [.v 6] 1 [] <|
(.leaf .ret [.v 7] ()))))))
def Jbp:Tm Unit :=
(.lt none (.mk 1 0) [] 1 <|
(.lt none .len [.v 1] 1 <|
(.bind 1
(.loop [.v 2,.c (.int .i64 0)]
(.lt none (.bin .lss) [.v 5,.v 3] 1 <|
(.ite (.v 6)
(.lt none .inb [.v 1,.v 5] 0 <|
(.lt none (.row 1 0 [true]) [.v 1,.v 5] 1 <|
(.bind 3
(.loop [.v 4,.c (.int .i64 1)]
(.lt none (.bin .leq) [.v 9,.v 7] 1 <|
(.ite (.v 10)
(.lt none (.mk 1 2) [.v 5,.v 9] 1 <|
(.lt none (.mk 1 1) [.v 11] 1 <|
(.lt none (.app 1 24 false) [.v 8,.v 12] 1 <|
(.lt none (.bin .add) [.v 9,.c (.int .i64 1)] 1 <|
(.leaf .cont [.v 13,.v 14] ())))))
(.leaf (.yield 3) [.v 8] ())))) <|
(.lt none (.bin .add) [.v 5,.c (.int .i64 1)] 1 <|
(.leaf .cont [.v 8,.v 9] ())))))
(.leaf (.yield 1) [.v 4] ())))) <|
(.leaf .ret [.v 4] ()))))
def Jbo:Tm Unit :=
(.call none 79 [.v 0,.v 1] 1 [] <|
(.leaf .ret [.v 2] ()))
def Jbn:Tm Unit :=
(.call none 80 [.v 0,.v 1] 1 [] <|
(.lt none (.bin .geq) [.v 2,.c (.int .i64 0)] 1 <|
(.leaf .ret [.v 3] ())))
def Jbm:Tm Unit :=
(.lt none .len [.v 0] 1 <|
(.bind 1
(.loop [.c (.int .i64 0)]
(.lt none (.bin .lss) [.v 3,.v 2] 1 <|
(.ite (.v 4)
(.lt none .inb [.v 0,.v 3] 0 <|
(.lt none (.row 1 0 [false]) [.v 0,.v 3] 1 <|
(.call none 81 [.v 5,.v 1] 1 [] <|
(.ite (.v 6)
(.leaf .ret [.v 3] ())
(.lt none (.bin .add) [.v 3,.c (.int .i64 1)] 1 <|
(.leaf .cont [.v 7] ()))))))
(.leaf (.yield 1) [] ())))) <|
(.leaf .ret [.c (.int .i64 (-1))] ())))
def Jbl:Tm Unit :=
(.call none 44 [.v 1,.v 0] 1 [] <|
(.leaf .ret [.v 2] ()))
def tm82:Tm Unit:=.stuck
def Jbk:Tm Unit :=
(.call none 46 [.v 0,.v 1] 1 [] <|
(.lt none (.mk 1 0) [] 1 <|
(.lt none .len [.v 2] 1 <|
(.bind 1
(.loop [.v 3,.c (.int .i64 0)]
(.lt none (.bin .lss) [.v 6,.v 4] 1 <|
(.ite (.v 7)
(.lt none .inb [.v 2,.v 6] 0 <|
(.lt none (.row 1 0 [false]) [.v 2,.v 6] 1 <|
(.lt none .inb [.v 8,.c (.int .i64 0)] 0 <|
(.lt none (.row 1 0 [true]) [.v 8,.c (.int .i64 0)] 1 <|
(.lt none .inb [.v 8,.c (.int .i64 1)] 0 <|
(.lt none (.row 1 0 [true]) [.v 8,.c (.int .i64 1)] 1 <|
(.call none 49 [.v 0,.v 1,.v 9,.v 10] 10 [] <|
(.lt none (.mk 1 0) [] 1 <|
(.lt none .len [.v 2] 1 <|
(.bind 3
(.loop [.v 21,.c (.int .i64 0)]
(.lt none (.bin .lss) [.v 24,.v 22] 1 <|
(.ite (.v 25)
(.bind 0
(.lt none .inb [.v 2,.v 24] 0 <|
(.lt none (.row 1 0 [false]) [.v 2,.v 24] 1 <|
(.call none 44 [.v 8,.v 26] 1 [] <|
(.lt none .not [.v 27] 1 <|
(.lt (some (.v 28,true)) .inb [.v 26,.c (.int .i64 1)] 0 <|
(.lt (some (.v 28,true)) (.row 1 0 [true]) [.v 26,.c (.int .i64 1)] 1 <|
(.lt (some (.v 28,true)) .inb [.v 26,.c (.int .i64 0)] 0 <|
(.lt (some (.v 28,true)) (.row 1 0 [true]) [.v 26,.c (.int .i64 0)] 1 <|
(.lt (some (.v 28,true)) .inb [.v 20,.v 30] 0 <|
(.lt (some (.v 28,true)) (.row 1 0 [true]) [.v 20,.v 30] 1 <|
(.lt (some (.v 28,true)) (.bin .leq) [.v 29,.v 31] 1 <|
(.lt none .pick [.v 28,.v 32,.c (.bool false)] 1 <|
(.ite (.v 33)
(.lt none (.mk 1 1) [.v 24] 1 <|
(.lt none (.app 1 8 true) [.v 23,.v 34] 1 <|
(.leaf (.yield 0) [.v 35,.c .undef,.c .undef,.c .undef,.c .undef] ())))
(.leaf (.yield 0) [.v 23,.c .undef,.c .undef,.c .undef,.c .undef] ())))))))))))))) <|
(.lt none (.bin .add) [.v 24,.c (.int .i64 1)] 1 <|
(.leaf .cont [.v 26,.v 31] ())))
(.leaf (.yield 3) [.v 23] ())))) <|
(.lt none (.mk 1 1) [.v 23] 1 <|
(.lt none (.app 1 24 false) [.v 5,.v 24] 1 <|
(.lt none (.bin .add) [.v 6,.c (.int .i64 1)] 1 <|
(.leaf .cont [.v 25,.v 26] ()))))))))))))))
(.leaf (.yield 1) [.v 5] ())))) <|
(.leaf .ret [.v 2,.v 5] ())))))
def Jbj:Tm Unit :=
(.lt none (.mk 1 0) [] 1 <|
(.call none 85 [.v 0] 1 [] <|
(.lt none .len [.v 3] 1 <|
(.bind 1
(.loop [.v 2,.v 3,.c (.int .i64 0)]
(.lt none (.bin .lss) [.v 7,.v 4] 1 <|
(.ite (.v 8)
(.lt none .inb [.v 6,.v 7] 0 <|
(.lt none (.row 1 0 [false]) [.v 6,.v 7] 1 <|
(.lt none (.set 1 0 1) [.v 6,.v 7,.c .hole] 1 <|
(.call none 93 [.v 9,.v 1] 1 [] <|
(.lt none (.dep 1) [.v 11] 0 <|
(.lt none (.app 1 8 true) [.v 5,.v 11] 1 <|
(.lt none (.bin .add) [.v 7,.c (.int .i64 1)] 1 <|
(.leaf .cont [.v 12,.v 10,.v 13] ()))))))))
(.leaf (.yield 1) [.v 5] ())))) <|
(.leaf .ret [.v 5] ())))))
def Jbi:Tm Unit :=
(.lt none (.mk 1 0) [] 1 <|
(.lt none .len [.v 0] 1 <|
(.bind 1
(.loop [.c (.int .i64 0),.v 1]
(.lt none (.bin .lss) [.v 3,.v 2] 1 <|
(.ite (.v 5)
(.call none 86 [.v 0,.v 3] 1 [] <|
(.lt none (.mk 1 1) [.v 6] 1 <|
(.lt none (.app 1 24 false) [.v 4,.v 7] 1 <|
(.lt none (.bin .add) [.v 3,.c (.int .i64 1)] 1 <|
(.leaf .cont [.v 9,.v 8] ())))))
(.leaf (.yield 1) [.v 4] ())))) <|
(.lt none (.mk 1 0) [] 1 <|
(.lt none .len [.v 0] 1 <|
(.lt none (.make 1 [(.bool false)]) [.v 5] 1 <|
(.lt none .len [.v 0] 1 <|
(.bind 3
(.loop [.v 4,.c (.int .i64 0)]
(.lt none (.bin .lss) [.v 9,.v 7] 1 <|
(.ite (.v 10)
(.bind 0
(.lt none (.mk 1 0) [] 1 <|
(.lt none .len [.v 0] 1 <|
(.bind 5
(.loop [.v 11,.c (.int .i64 0)]
(.lt none (.bin .lss) [.v 14,.v 12] 1 <|
(.ite (.v 15)
(.bind 0
(.lt none .inb [.v 3,.v 9] 0 <|
(.lt none (.row 1 0 [false]) [.v 3,.v 9] 1 <|
(.call none 58 [.v 16,.v 14] 1 [] <|
(.lt (some (.v 17,true)) .id [.v 14] 1 <|
(.lt (some (.v 17,true)) .inb [.v 3,.v 18] 0 <|
(.lt (some (.v 17,true)) (.row 1 0 [false]) [.v 3,.v 18] 1 <|
(.lt (some (.v 17,true)) .id [.v 9] 1 <|
(.call (some (.v 17,true)) 58 [.v 19,.v 20] 1 [] <|
(.lt none .pick [.v 17,.v 21,.c (.bool false)] 1 <|
(.ite (.v 22)
(.lt none (.mk 1 1) [.v 14] 1 <|
(.lt none (.app 1 8 true) [.v 13,.v 23] 1 <|
(.leaf (.yield 0) [.v 24,.c .undef,.c .undef,.c .undef] ())))
(.leaf (.yield 0) [.v 13,.c .undef,.c .undef,.c .undef] ()))))))))))) <|
(.lt none (.bin .add) [.v 14,.c (.int .i64 1)] 1 <|
(.leaf .cont [.v 16,.v 20] ())))
(.leaf (.yield 5) [.v 13] ())))) <|
(.lt none .inb [.v 13,.c (.int .i64 0)] 0 <|
(.lt none (.row 1 0 [true]) [.v 13,.c (.int .i64 0)] 1 <|
(.lt none (.bin .eql) [.v 14,.v 9] 1 <|
(.ite (.v 15)
(.lt none (.mk 1 1) [.v 13] 1 <|
(.lt none (.app 1 24 false) [.v 8,.v 16] 1 <|
(.leaf (.yield 0) [.v 17] ())))
(.leaf (.yield 0) [.v 8] ())))))))) <|
(.lt none (.bin .add) [.v 9,.c (.int .i64 1)] 1 <|
(.leaf .cont [.v 11,.v 12] ())))
(.leaf (.yield 3) [.v 8] ())))) <|
(.lt none (.mk 1 0) [] 1 <|
(.bind 7
(.loop [.v 8,.v 9,.v 6]
(.lt none .len [.v 10] 1 <|
(.lt none (.bin .gtr) [.v 13,.c (.int .i64 0)] 1 <|
(.ite (.v 14)
(.lt none .ne [.v 3] 0 <|
(.lt none .ne [.v 12] 0 <|
(.call none 87 [.v 10,.v 3,.v 12] 1 [] <|
(.lt none .inb [.v 10,.v 15] 0 <|
(.lt none (.row 1 0 [false]) [.v 10,.v 15] 1 <|
(.lt none .len [.v 16] 1 <|
(.bind 9
(.loop [.c (.int .i64 0),.v 12]
(.lt none (.bin .lss) [.v 18,.v 17] 1 <|
(.ite (.v 20)
(.lt none .inb [.v 16,.v 18] 0 <|
(.lt none (.row 1 0 [true]) [.v 16,.v 18] 1 <|
(.lt none .inb [.v 19,.v 21] 0 <|
(.lt none (.set 1 0 1) [.v 19,.v 21,.c (.bool true)] 1 <|
(.lt none (.bin .add) [.v 18,.c (.int .i64 1)] 1 <|
(.leaf .cont [.v 23,.v 22] ()))))))
(.leaf (.yield 9) [.v 19] ())))) <|
(.lt none .inb [.v 10,.v 15] 0 <|
(.lt none (.row 1 0 [false]) [.v 10,.v 15] 1 <|
(.lt none (.set 1 0 1) [.v 10,.v 15,.c .hole] 1 <|
(.lt none (.mk 1 1) [.v 19] 1 <|
(.lt none (.app 1 24 false) [.v 11,.v 21] 1 <|
(.lt none (.bin .add) [.v 15,.c (.int .i64 1)] 1 <|
(.call none 92 [.v 20,.v 15,.v 23] 1 [] <|
(.leaf .cont [.v 24,.v 22,.v 18] ())))))))))))))))
(.leaf (.yield 7) [.v 11,.v 12] ()))))) <|
(.leaf .ret [.v 10] ())))))))))))
def Jbh:Tm Unit :=
(.lt none .len [.v 0] 1 <|
(.lt none (.make 1 [(.bool false)]) [.v 2] 1 <|
(.lt none .inb [.v 3,.v 1] 0 <|
(.lt none (.set 1 0 1) [.v 3,.v 1,.c (.bool true)] 1 <|
(.lt none (.mk 1 1) [.v 1] 1 <|
(.bind 1
(.loop [.v 4,.v 5]
(.lt none .len [.v 7] 1 <|
(.lt none (.bin .gtr) [.v 8,.c (.int .i64 0)] 1 <|
(.ite (.v 9)
(.lt none .inb [.v 7,.c (.int .i64 0)] 0 <|
(.lt none (.row 1 0 [true]) [.v 7,.c (.int .i64 0)] 1 <|
(.lt none .inb [.v 0,.v 10] 0 <|
(.lt none (.row 1 0 [false]) [.v 0,.v 10] 1 <|
(.lt none .len [.v 11] 1 <|
(.bind 3
(.loop [.v 6,.v 7,.c (.int .i64 0)]
(.lt none (.bin .lss) [.v 15,.v 12] 1 <|
(.ite (.v 16)
(.bind 0
(.lt none .inb [.v 11,.v 15] 0 <|
(.lt none (.row 1 0 [true]) [.v 11,.v 15] 1 <|
(.lt none .inb [.v 13,.v 17] 0 <|
(.lt none (.row 1 0 [true]) [.v 13,.v 17] 1 <|
(.lt none .not [.v 18] 1 <|
(.ite (.v 19)
(.lt none .inb [.v 13,.v 17] 0 <|
(.lt none (.set 1 0 1) [.v 13,.v 17,.c (.bool true)] 1 <|
(.lt none (.mk 1 1) [.v 17] 1 <|
(.lt none (.app 1 8 true) [.v 14,.v 21] 1 <|
(.leaf (.yield 0) [.v 20,.v 22] ())))))
(.leaf (.yield 0) [.v 13,.v 14] ()))))))) <|
(.lt none (.bin .add) [.v 15,.c (.int .i64 1)] 1 <|
(.leaf .cont [.v 17,.v 18,.v 19] ())))
(.leaf (.yield 3) [.v 13,.v 14] ())))) <|
(.lt none .len [.v 14] 1 <|
(.lt none (.sub 1 true) [.v 14,.c (.int .i64 1),.v 15] 1 <|
(.leaf .cont [.v 13,.v 16] ())))))))))
(.leaf (.yield 1) [.v 6] ()))))) <|
(.lt none (.mk 1 0) [] 1 <|
(.lt none .len [.v 6] 1 <|
(.bind 5
(.loop [.v 7,.c (.int .i64 0)]
(.lt none (.bin .lss) [.v 10,.v 8] 1 <|
(.ite (.v 11)
(.bind 0
(.lt none .inb [.v 6,.v 10] 0 <|
(.lt none (.row 1 0 [true]) [.v 6,.v 10] 1 <|
(.ite (.v 12)
(.lt none (.mk 1 1) [.v 10] 1 <|
(.lt none (.app 1 8 true) [.v 9,.v 13] 1 <|
(.leaf (.yield 0) [.v 14] ())))
(.leaf (.yield 0) [.v 9] ())))) <|
(.lt none (.bin .add) [.v 10,.c (.int .i64 1)] 1 <|
(.leaf .cont [.v 12,.v 13] ())))
(.leaf (.yield 5) [.v 9] ())))) <|
(.leaf .ret [.v 9] ()))))))))))
def Jbg:Tm Unit :=
(.lt none .len [.v 0] 1 <|
(.bind 1
(.loop [.c (.int .i64 0)]
(.lt none (.bin .lss) [.v 4,.v 3] 1 <|
(.ite (.v 5)
(.lt none .inb [.v 0,.v 4] 0 <|
(.lt none (.row 1 0 [false]) [.v 0,.v 4] 1 <|
(.call none 88 [.v 6,.v 1,.v 2] 1 [] <|
(.ite (.v 7)
(.leaf .ret [.v 4] ())
(.lt none (.bin .add) [.v 4,.c (.int .i64 1)] 1 <|
(.leaf .cont [.v 8] ()))))))
(.leaf (.yield 1) [] ())))) <|
(.leaf .ret [.c (.int .i64 (-1))] ())))
def Jbf:Tm Unit :=
(.lt none .inb [.v 0,.c (.int .i64 0)] 0 <|
(.lt none (.row 1 0 [true]) [.v 0,.c (.int .i64 0)] 1 <|
(.lt none .inb [.v 1,.v 3] 0 <|
(.lt none (.row 1 0 [false]) [.v 1,.v 3] 1 <|
(.call none 89 [.v 4,.v 2,.v 0] 1 [] <|
(.lt none .not [.v 5] 1 <|
(.leaf .ret [.v 6] ())))))))
def Jbe:Tm Unit :=
(.call none 90 [.v 0,.v 1,.v 2] 1 [] <|
(.lt none (.bin .geq) [.v 3,.c (.int .i64 0)] 1 <|
(.leaf .ret [.v 4] ())))
def Jbd:Tm Unit :=
(.lt none .len [.v 0] 1 <|
(.bind 1
(.loop [.c (.int .i64 0)]
(.lt none (.bin .lss) [.v 4,.v 3] 1 <|
(.ite (.v 5)
(.lt none .inb [.v 0,.v 4] 0 <|
(.lt none (.row 1 0 [true]) [.v 0,.v 4] 1 <|
(.call none 91 [.v 6,.v 1,.v 2] 1 [] <|
(.ite (.v 7)
(.leaf .ret [.v 4] ())
(.lt none (.bin .add) [.v 4,.c (.int .i64 1)] 1 <|
(.leaf .cont [.v 8] ()))))))
(.leaf (.yield 1) [] ())))) <|
(.leaf .ret [.c (.int .i64 (-1))] ())))
def Jbc:Tm Unit :=
(.lt none .inb [.v 1,.v 0] 0 <|
(.lt none (.row 1 0 [true]) [.v 1,.v 0] 1 <|
(.lt none .not [.v 3] 1 <|
(.lt (some (.v 4,true)) .id [.v 0] 1 <|
(.call (some (.v 4,true)) 58 [.v 2,.v 5] 1 [] <|
(.lt (some (.v 4,true)) .not [.v 6] 1 <|
(.lt none .pick [.v 4,.v 7,.c (.bool false)] 1 <|
(.leaf .ret [.v 8] ()))))))))
def tm92:Tm Unit:=.stuck
def tm93:Tm Unit:=.stuck
def Jbb:Tm Unit :=
(.call none 26 [.v 2,.v 3] 1 [] <|
(.lt none .not [.v 4] 1 <|
(.lt (some (.v 5,false)) .id [.v 2] 1 <|
(.call (some (.v 5,false)) 95 [.v 6,.v 0] 1 [] <|
(.lt (some (.v 5,false)) .not [.v 7] 1 <|
(.lt none .pick [.v 5,.c (.bool true),.v 8] 1 <|
(.lt (some (.v 9,false)) .id [.v 2] 1 <|
(.call (some (.v 9,false)) 95 [.v 10,.v 1] 1 [] <|
(.lt (some (.v 9,false)) .not [.v 11] 1 <|
(.lt none .pick [.v 9,.c (.bool true),.v 12] 1 <|
(.ite (.v 13)
(.leaf .ret [.c (.bool false),.c (.bool false)] ())
(.call none 96 [.v 2,.v 3,.v 0,.v 1] 1 [] <|
(.leaf .ret [.v 14,.c (.bool true)] ())))))))))))))
def Jba:Tm Unit :=
(.lt none .len [.v 1] 1 <|
(.bind 1
(.loop [.c (.int .i64 0)]
(.lt none (.bin .lss) [.v 3,.v 2] 1 <|
(.ite (.v 4)
(.lt none .inb [.v 1,.v 3] 0 <|
(.lt none (.row 1 0 [false]) [.v 1,.v 3] 1 <|
(.lt none .len [.v 5] 1 <|
(.lt none (.bin .neq) [.v 6,.c (.int .i64 2)] 1 <|
(.lt (some (.v 7,false)) .id [.v 0] 1 <|
(.lt (some (.v 7,false)) .inb [.v 5,.c (.int .i64 0)] 0 <|
(.lt (some (.v 7,false)) (.row 1 0 [true]) [.v 5,.c (.int .i64 0)] 1 <|
(.lt (some (.v 7,false)) .inb [.v 5,.c (.int .i64 1)] 0 <|
(.lt (some (.v 7,false)) (.row 1 0 [true]) [.v 5,.c (.int .i64 1)] 1 <|
(.call (some (.v 7,false)) 65 [.v 8,.v 9,.v 10] 1 [] <|
(.lt (some (.v 7,false)) .not [.v 11] 1 <|
(.lt none .pick [.v 7,.c (.bool true),.v 12] 1 <|
(.lt (some (.v 13,false)) .id [.v 3] 1 <|
(.lt (some (.v 13,false)) (.sub 1 false) [.v 1,.c (.int .i64 0),.v 14] 1 <|
(.call (some (.v 13,false)) 78 [.v 15,.v 5] 1 [] <|
(.lt none .pick [.v 13,.c (.bool true),.v 16] 1 <|
(.ite (.v 17)
(.leaf .ret [.c (.bool false)] ())
(.lt none (.bin .add) [.v 3,.c (.int .i64 1)] 1 <|
(.leaf .cont [.v 18] ())))))))))))))))))))
(.leaf (.yield 1) [] ())))) <|
(.leaf .ret [.c (.bool true)] ())))
def Ib9:Tm Unit :=
(.lt none .len [.v 2] 1 <|
(.bind 1
(.loop [.c (.int .i64 0)]
(.lt none (.bin .lss) [.v 5,.v 4] 1 <|
(.ite (.v 6)
(.lt none .inb [.v 2,.v 5] 0 <|
(.lt none (.row 1 0 [false]) [.v 2,.v 5] 1 <|
(.lt none (.sub 1 false) [.v 2,.c (.int .i64 0),.v 5] 1 <|
(.lt none .len [.v 8] 1 <|
(.bind 3
(.loop [.c (.int .i64 0)]
(.lt none (.bin .lss) [.v 10,.v 9] 1 <|
(.ite (.v 11)
(.lt none .inb [.v 8,.v 10] 0 <|
(.lt none (.row 1 0 [false]) [.v 8,.v 10] 1 <|
(.lt none .inb [.v 7,.c (.int .i64 0)] 0 <|
(.lt none (.row 1 0 [true]) [.v 7,.c (.int .i64 0)] 1 <|
(.lt none .inb [.v 7,.c (.int .i64 1)] 0 <|
(.lt none (.row 1 0 [true]) [.v 7,.c (.int .i64 1)] 1 <|
(.call none 49 [.v 0,.v 1,.v 13,.v 14] 10 [] <|
(.lt none .inb [.v 12,.c (.int .i64 0)] 0 <|
(.lt none (.row 1 0 [true]) [.v 12,.c (.int .i64 0)] 1 <|
(.lt none .inb [.v 12,.c (.int .i64 1)] 0 <|
(.lt none (.row 1 0 [true]) [.v 12,.c (.int .i64 1)] 1 <|
(.call none 49 [.v 0,.v 1,.v 25,.v 26] 10 [] <|
(.call none 53 [.v 18,.v 19,.v 20,.v 21,.v 22,.v 30,.v 31,.v 32,.v 33,.v 34] 1 [] <|
(.call (some (.v 37,true)) 97 [.v 7,.v 3] 1 [] <|
(.lt (some (.v 37,true)) (.bin .geq) [.v 38,.c (.int .i64 0)] 1 <|
(.lt none .pick [.v 37,.v 39,.c (.bool false)] 1 <|
(.call (some (.v 40,true)) 97 [.v 12,.v 3] 1 [] <|
(.lt (some (.v 40,true)) (.bin .geq) [.v 41,.c (.int .i64 0)] 1 <|
(.lt none .pick [.v 40,.v 42,.c (.bool false)] 1 <|
(.call (some (.v 43,true)) 97 [.v 7,.v 3] 1 [] <|
(.call (some (.v 43,true)) 97 [.v 12,.v 3] 1 [] <|
(.lt (some (.v 43,true)) (.bin .lss) [.v 44,.v 45] 1 <|
(.lt none .pick [.v 43,.v 46,.c (.bool false)] 1 <|
(.ite (.v 47)
(.leaf .ret [.c (.bool false)] ())
(.lt none (.bin .add) [.v 10,.c (.int .i64 1)] 1 <|
(.leaf .cont [.v 48] ()))))))))))))))))))))))))))
(.leaf (.yield 3) [] ())))) <|
(.lt none (.bin .add) [.v 5,.c (.int .i64 1)] 1 <|
(.leaf .cont [.v 10] ())))))))
(.leaf (.yield 1) [] ())))) <|
(.leaf .ret [.c (.bool true)] ())))
def Ib8:Tm Unit :=
(.call none 98 [.v 1,.v 0] 1 [] <|
(.leaf .ret [.v 2] ()))
def Ib7:Tm Unit :=
(.lt none .len [.v 0] 1 <|
(.bind 1
(.loop [.c (.int .i64 0)]
(.lt none (.bin .lss) [.v 3,.v 2] 1 <|
(.ite (.v 4)
(.lt none .inb [.v 0,.v 3] 0 <|
(.lt none (.row 1 0 [false]) [.v 0,.v 3] 1 <|
(.call none 99 [.v 5,.v 1] 1 [] <|
(.ite (.v 6)
(.leaf .ret [.v 3] ())
(.lt none (.bin .add) [.v 3,.c (.int .i64 1)] 1 <|
(.leaf .cont [.v 7] ()))))))
(.leaf (.yield 1) [] ())))) <|
(.leaf .ret [.c (.int .i64 (-1))] ())))
def Ib6:Tm Unit :=
(.call none 44 [.v 1,.v 0] 1 [] <|
(.leaf .ret [.v 2] ()))
def Ab6:Tm Unit :=
(.lt none .len [.v 0] 1 <|
(.bind 1
(.loop [.c (.int .i64 0)]
(.lt none (.bin .lss) [.v 3,.v 2] 1 <|
(.ite (.v 4)
(.lt none .inb [.v 0,.v 3] 0 <|
(.lt none (.row 1 0 [false]) [.v 0,.v 3] 1 <|
(.call none 101 [.v 1,.v 5] 1 [] <|
(.ite (.v 6)
(.leaf .ret [.c (.bool true)] ())
(.lt none (.bin .add) [.v 3,.c (.int .i64 1)] 1 <|
(.leaf .cont [.v 7] ()))))))
(.leaf (.yield 1) [] ())))) <|
(.leaf .ret [.c (.bool false)] ())))
def Ab5:Tm Unit :=
(.lt none .len [.v 0] 1 <|
(.lt none .len [.v 1] 1 <|
(.lt none (.bin .neq) [.v 2,.v 3] 1 <|
(.ite (.v 4)
(.leaf .ret [.c (.bool false)] ())
(.lt none .len [.v 0] 1 <|
(.bind 1
(.loop [.c (.int .i64 0)]
(.lt none (.bin .lss) [.v 6,.v 5] 1 <|
(.ite (.v 7)
(.lt none .inb [.v 0,.v 6] 0 <|
(.lt none (.row 1 0 [true]) [.v 0,.v 6] 1 <|
(.lt none .inb [.v 1,.v 6] 0 <|
(.lt none (.row 1 0 [true]) [.v 1,.v 6] 1 <|
(.lt none (.bin .neq) [.v 8,.v 9] 1 <|
(.ite (.v 10)
(.leaf .ret [.c (.bool false)] ())
(.lt none (.bin .add) [.v 6,.c (.int .i64 1)] 1 <|
(.leaf .cont [.v 11] ()))))))))
(.leaf (.yield 1) [] ())))) <|
(.leaf .ret [.c (.bool true)] ())))))))
def Ab4:Tm Unit :=
(.call none 4 [.v 0,.c (.int .i64 0),.c (.int .u64 0)] 5 [] <|
(.call none 103 [.v 1,.v 2] 2 [] <|
(.lt none (.mk 1 0) [] 1 <|
(.lt none (.app 1 24 false) [.v 8,.v 6] 1 <|
(.bind 0
(.lt none .len [.v 9] 1 <|
(.lt none (.bin .gtr) [.v 10,.c (.int .i64 1)] 1 <|
(.call (some (.v 11,true)) 9 [.c (.int .i64 2),.v 3,.v 4,.v 5] 4 [.v 3,.v 4,.v 5] <|
(.lt none .pick [.v 11,.v 12,.c (.bool false)] 1 <|
(.ite (.v 16)
(.lt none .len [.v 9] 1 <|
(.lt none (.bin .sub) [.v 17,.c (.int .i64 1)] 1 <|
(.call none 6 [.v 18,.v 13,.v 14,.v 15] 4 [] <|
(.lt none .inb [.v 9,.v 19] 0 <|
(.lt none (.row 1 0 [false]) [.v 9,.v 19] 1 <|
(.lt none (.bin .add) [.v 19,.c (.int .i64 1)] 1 <|
(.lt none .inb [.v 9,.v 24] 0 <|
(.lt none (.row 1 0 [false]) [.v 9,.v 24] 1 <|
(.lt none .inb [.v 9,.v 19] 0 <|
(.lt none (.set 1 0 1) [.v 9,.v 19,.v 25] 1 <|
(.lt none (.bin .add) [.v 19,.c (.int .i64 1)] 1 <|
(.lt none .inb [.v 26,.v 27] 0 <|
(.lt none (.set 1 0 1) [.v 26,.v 27,.v 23] 1 <|
(.leaf (.yield 0) [.v 28,.v 20,.v 21,.v 22] ()))))))))))))))
(.leaf (.yield 0) [.v 9,.v 13,.v 14,.v 15] ())))))) <|
(.leaf .ret [.v 6,.v 10,.v 1,.v 2] ()))))))
def Ab3:Tm Unit :=
(.call none 104 [.v 0,.v 1] 1 [] <|
(.lt none .not [.v 2] 1 <|
(.ite (.v 3)
(.leaf .ret [.c (.rows 1 []),.c (.bool false)] ())
(.call none 115 [.v 0,.v 1] 1 [] <|
(.leaf .ret [.v 4,.c (.bool true)] ())))))
def Ab2:Tm Unit :=
(.call none 105 [.v 0] 1 [] <|
(.lt none .not [.v 2] 1 <|
(.lt (some (.v 3,false)) .len [.v 1] 1 <|
(.lt (some (.v 3,false)) .id [.v 0] 1 <|
(.lt (some (.v 3,false)) (.bin .neq) [.v 4,.v 5] 1 <|
(.lt none .pick [.v 3,.c (.bool true),.v 6] 1 <|
(.ite (.v 7)
(.leaf .ret [.c (.bool false)] ())
(.lt none .len [.v 1] 1 <|
(.bind 1
(.loop [.c (.int .i64 0)]
(.lt none (.bin .lss) [.v 9,.v 8] 1 <|
(.ite (.v 10)
(.lt none .inb [.v 1,.v 9] 0 <|
(.lt none (.row 1 0 [false]) [.v 1,.v 9] 1 <|
(.lt none .len [.v 11] 1 <|
(.bind 3
(.loop [.c (.int .i64 0)]
(.lt none (.bin .lss) [.v 13,.v 12] 1 <|
(.ite (.v 14)
(.lt none .inb [.v 11,.v 13] 0 <|
(.lt none (.row 10 0 [true,true,true,true,true,true,true,true,true,false]) [.v 11,.v 13] 10 <|
(.call none 106 [.v 0,.v 15,.v 16,.v 17,.v 18,.v 19,.v 20,.v 21,.v 22,.v 23,.v 24] 1 [] <|
(.lt none .not [.v 25] 1 <|
(.ite (.v 26)
(.leaf .ret [.c (.bool false)] ())
(.lt none (.bin .add) [.v 13,.c (.int .i64 1)] 1 <|
(.leaf .cont [.v 27] ())))))))
(.leaf (.yield 3) [] ())))) <|
(.lt none .len [.v 11] 1 <|
(.lt none (.bin .gtr) [.v 13,.c (.int .i64 6)] 1 <|
(.ite (.v 14)
(.leaf .ret [.c (.bool false)] ())
(.lt none (.bin .add) [.v 9,.c (.int .i64 1)] 1 <|
(.leaf .cont [.v 15] ())))))))))
(.leaf (.yield 1) [] ())))) <|
(.leaf .ret [.c (.bool true)] ()))))))))))
def Ab1:Tm Unit :=
(.lt none (.bin .eql) [.v 0,.c (.int .i64 3)] 1 <|
(.lt (some (.v 1,false)) .id [.v 0] 1 <|
(.lt (some (.v 1,false)) (.bin .eql) [.v 2,.c (.int .i64 5)] 1 <|
(.lt none .pick [.v 1,.c (.bool true),.v 3] 1 <|
(.leaf .ret [.v 4] ())))))
def Ab0:Tm Unit :=
(.call none 107 [.v 1,.c (.int .i64 0),.c (.int .i64 9999)] 1 [] <|
(.lt none .not [.v 11] 1 <|
(.lt (some (.v 12,false)) .id [.v 2] 1 <|
(.lt (some (.v 12,false)) .id [.v 1] 1 <|
(.call (some (.v 12,false)) 107 [.v 13,.c (.int .i64 0),.v 14] 1 [] <|
(.lt (some (.v 12,false)) .not [.v 15] 1 <|
(.lt none .pick [.v 12,.c (.bool true),.v 16] 1 <|
(.lt (some (.v 17,false)) .id [.v 3] 1 <|
(.call (some (.v 17,false)) 107 [.v 18,.c (.int .i64 0),.c (.int .i64 3)] 1 [] <|
(.lt (some (.v 17,false)) .not [.v 19] 1 <|
(.lt none .pick [.v 17,.c (.bool true),.v 20] 1 <|
(.ite (.v 21)
(.leaf .ret [.c (.bool false)] ())
(.lt none (.bin .eql) [.v 3,.c (.int .i64 0)] 1 <|
(.ite (.v 22)
(.lt none (.bin .eql) [.v 2,.c (.int .i64 0)] 1 <|
(.lt (some (.v 23,true)) (.eqs [0,0,0,0,0]) [.v 4,.v 5,.v 6,.v 7,.v 8,.c (.int .i64 0),.c (.int .i64 0),.c (.int .i64 0),.c (.int .i64 0),.c (.int .i64 0)] 1 <|
(.lt none .pick [.v 23,.v 24,.c (.bool false)] 1 <|
(.lt (some (.v 25,true)) .id [.v 0] 1 <|
(.call (some (.v 25,true)) 11 [.v 26] 2 [] <|
(.call (some (.v 25,true)) 108 [.v 9,.v 10,.v 27,.v 28] 1 [] <|
(.lt none .pick [.v 25,.v 29,.c (.bool false)] 1 <|
(.leaf .ret [.v 30] ()))))))))
(.call none 110 [.v 4,.v 5,.v 6,.v 7,.v 8] 1 [] <|
(.lt (some (.v 23,true)) .id [.v 0] 1 <|
(.call (some (.v 23,true)) 113 [.v 24,.v 9,.v 10] 1 [] <|
(.lt none .pick [.v 23,.v 25,.c (.bool false)] 1 <|
(.leaf .ret [.v 26] ())))))))))))))))))))
def Abz:Tm Unit :=
(.lt none (.bin .geq) [.v 0,.v 1] 1 <|
(.lt (some (.v 3,true)) .id [.v 0] 1 <|
(.lt (some (.v 3,true)) .id [.v 2] 1 <|
(.lt (some (.v 3,true)) (.bin .leq) [.v 4,.v 5] 1 <|
(.lt none .pick [.v 3,.v 6,.c (.bool false)] 1 <|
(.leaf .ret [.v 7] ()))))))
def Aby:Tm Unit :=
(.lt none (.bin .eql) [.v 0,.v 2] 1 <|
(.call (some (.v 4,true)) 109 [.v 1,.v 3] 1 [] <|
(.lt none .pick [.v 4,.v 5,.c (.bool false)] 1 <|
(.leaf .ret [.v 6] ()))))
def Abx:Tm Unit :=
(.lt none .len [.v 0] 1 <|
(.lt none .len [.v 1] 1 <|
(.lt none (.bin .neq) [.v 2,.v 3] 1 <|
(.ite (.v 4)
(.leaf .ret [.c (.bool false)] ())
(.lt none .len [.v 0] 1 <|
(.bind 1
(.loop [.c (.int .i64 0)]
(.lt none (.bin .lss) [.v 6,.v 5] 1 <|
(.ite (.v 7)
(.lt none .inb [.v 0,.v 6] 0 <|
(.lt none (.row 1 0 [true]) [.v 0,.v 6] 1 <|
(.lt none .inb [.v 1,.v 6] 0 <|
(.lt none (.row 1 0 [true]) [.v 1,.v 6] 1 <|
(.lt none (.bin .neq) [.v 8,.v 9] 1 <|
(.ite (.v 10)
(.leaf .ret [.c (.bool false)] ())
(.lt none (.bin .add) [.v 6,.c (.int .i64 1)] 1 <|
(.leaf .cont [.v 11] ()))))))))
(.leaf (.yield 1) [] ())))) <|
(.leaf .ret [.c (.bool true)] ())))))))
def Abw:Tm Unit :=
(.lt none (.bin .eql) [.v 0,.c (.int .i64 0)] 1 <|
(.ite (.v 5)
(.lt none (.eqs [0,0,0,0,0]) [.v 0,.v 1,.v 2,.v 3,.v 4,.c (.int .i64 0),.c (.int .i64 0),.c (.int .i64 0),.c (.int .i64 0),.c (.int .i64 0)] 1 <|
(.leaf .ret [.v 6] ()))
(.lt none (.bin .eql) [.v 0,.c (.int .i64 1)] 1 <|
(.ite (.v 6)
(.call none 111 [.v 0,.v 1,.v 2,.v 3,.v 4] 1 [] <|
(.lt none (.bin .eql) [.v 7,.c (.int .i64 0)] 1 <|
(.leaf .ret [.v 8] ())))
(.lt none (.bin .eql) [.v 0,.c (.int .i64 2)] 1 <|
(.ite (.v 7)
(.call none 111 [.v 0,.v 1,.v 2,.v 3,.v 4] 1 [] <|
(.lt none (.bin .eql) [.v 8,.c (.int .i64 0)] 1 <|
(.lt (some (.v 9,true)) .id [.v 3] 1 <|
(.lt (some (.v 9,true)) (.bin .eql) [.v 10,.c (.int .i64 0)] 1 <|
(.lt none .pick [.v 9,.v 11,.c (.bool false)] 1 <|
(.lt (some (.v 12,true)) .id [.v 4] 1 <|
(.lt (some (.v 12,true)) (.bin .eql) [.v 13,.c (.int .i64 0)] 1 <|
(.lt none .pick [.v 12,.v 14,.c (.bool false)] 1 <|
(.leaf .ret [.v 15] ())))))))))
(.leaf .ret [.c (.bool false)] ())))))))
def Abv:Tm Unit :=
(.lt none (.bin .eql) [.v 0,.c (.int .i64 1)] 1 <|
(.call none 112 [.v 2] 1 [] <|
(.lt none .not [.v 6] 1 <|
(.lt (some (.v 7,false)) .id [.v 5] 1 <|
(.lt (some (.v 7,false)) .id [.v 8] 1 <|
(.lt (some (.v 9,true)) .id [.v 3] 1 <|
(.call (some (.v 9,true)) 112 [.v 10] 1 [] <|
(.lt (some (.v 9,true)) .not [.v 11] 1 <|
(.lt (some (.v 7,false)) .pick [.v 9,.v 12,.c (.bool false)] 1 <|
(.lt none .pick [.v 7,.c (.bool true),.v 13] 1 <|
(.ite (.v 14)
(.leaf .ret [.c (.int .i64 4)] ())
(.lt (some (.v 5,true)) .id [.v 2] 1 <|
(.lt (some (.v 5,true)) .id [.v 3] 1 <|
(.lt (some (.v 5,true)) (.bin .eql) [.v 15,.v 16] 1 <|
(.lt none .pick [.v 5,.v 17,.c (.bool false)] 1 <|
(.ite (.v 18)
(.leaf .ret [.c (.int .i64 5)] ())
(.call none 107 [.v 1,.c (.int .i64 1),.c (.int .i64 999)] 1 [] <|
(.lt none .not [.v 19] 1 <|
(.lt (some (.v 20,false)) .id [.v 5] 1 <|
(.lt (some (.v 20,false)) .id [.v 21] 1 <|
(.lt (some (.v 22,true)) .id [.v 4] 1 <|
(.call (some (.v 22,true)) 107 [.v 23,.c (.int .i64 1),.c (.int .i64 1000)] 1 [] <|
(.lt (some (.v 22,true)) .not [.v 24] 1 <|
(.lt (some (.v 20,false)) .pick [.v 22,.v 25,.c (.bool false)] 1 <|
(.lt none .pick [.v 20,.c (.bool true),.v 26] 1 <|
(.ite (.v 27)
(.leaf .ret [.c (.int .i64 6)] ())
(.leaf .ret [.c (.int .i64 0)] ())))))))))))))))))))))))))))
def Abu:Tm Unit :=
(.call none 107 [.v 0,.c (.int .i64 0),.c (.int .i64 3)] 1 [] <|
(.leaf .ret [.v 1] ()))
def Abt:Tm Unit :=
(.call none 107 [.v 1,.c (.int .i64 0),.c (.int .i64 999)] 1 [] <|
(.lt (some (.v 3,true)) .len [.v 2] 1 <|
(.lt (some (.v 3,true)) .id [.v 0] 1 <|
(.lt (some (.v 3,true)) (.bin .eql) [.v 4,.v 5] 1 <|
(.lt none .pick [.v 3,.v 6,.c (.bool false)] 1 <|
(.call (some (.v 7,true)) 114 [.v 2,.c (.int .i64 0),.c (.int .i64 6)] 1 [] <|
(.lt none .pick [.v 7,.v 8,.c (.bool false)] 1 <|
(.leaf .ret [.v 9] ()))))))))
def Abs:Tm Unit :=
(.lt none .len [.v 0] 1 <|
(.bind 1
(.loop [.c (.int .i64 0)]
(.lt none (.bin .lss) [.v 4,.v 3] 1 <|
(.ite (.v 5)
(.lt none .inb [.v 0,.v 4] 0 <|
(.lt none (.row 1 0 [true]) [.v 0,.v 4] 1 <|
(.call none 107 [.v 6,.v 1,.v 2] 1 [] <|
(.lt none .not [.v 7] 1 <|
(.ite (.v 8)
(.leaf .ret [.c (.bool false)] ())
(.lt none (.bin .add) [.v 4,.c (.int .i64 1)] 1 <|
(.leaf .cont [.v 9] ())))))))
(.leaf (.yield 1) [] ())))) <|
(.leaf .ret [.c (.bool true)] ())))
def Abr:Tm Unit :=
(.call none 116 [.v 0,.v 1] 1 [] <|
(.call none 18 [.v 0,.v 1] 2 [] <|
(.lt none .len [.v 4] 1 <|
(.bind 1
(.loop [.c (.int .i64 0),.v 4]
(.lt none (.bin .lss) [.v 6,.v 5] 1 <|
(.ite (.v 8)
(.lt none .inb [.v 7,.v 6] 0 <|
(.lt none (.row 1 0 [false]) [.v 7,.v 6] 1 <|
(.lt none .len [.v 9] 1 <|
(.bind 3
(.loop [.c (.int .i64 0),.v 7]
(.lt none (.bin .lss) [.v 11,.v 10] 1 <|
(.ite (.v 13)
(.bind 0
(.lt none (.bin .add) [.v 11,.c (.int .i64 1)] 1 <|
(.lt none (.mk 1 2) [.v 6,.v 14] 1 <|
(.call none 121 [.v 2,.v 15] 1 [] <|
(.lt none (.bin .lss) [.v 16,.c (.int .i64 0)] 1 <|
(.ite (.v 17)
(.lt none .inb [.v 12,.v 6] 0 <|
(.lt none (.row 1 0 [false]) [.v 12,.v 6] 1 <|
(.call none 11 [.v 0] 2 [] <|
(.lt none .inb [.v 18,.v 11] 0 <|
(.lt none (.set 10 0 10) [.v 18,.v 11,.c (.int .i64 0),.c (.int .i64 0),.c (.int .i64 0),.c (.int .i64 0),.c (.int .i64 0),.c (.int .i64 0),.c (.int .i64 0),.c (.int .i64 0),.v 19,.v 20] 1 <|
(.lt none (.set 1 0 1) [.v 12,.v 6,.v 21] 1 <|
(.leaf (.yield 0) [.v 22] ())))))))
(.leaf (.yield 0) [.v 12] ())))))) <|
(.lt none (.bin .add) [.v 11,.c (.int .i64 1)] 1 <|
(.leaf .cont [.v 15,.v 14] ())))
(.leaf (.yield 3) [.v 12] ())))) <|
(.lt none (.bin .add) [.v 6,.c (.int .i64 1)] 1 <|
(.leaf .cont [.v 12,.v 11] ()))))))
(.leaf (.yield 1) [.v 7] ())))) <|
(.call none 123 [.v 3,.v 6] 2 [] <|
(.lt none (.dep 99) [.v 7] 0 <|
(.lt none .len [.v 7] 1 <|
(.bind 5
(.loop [.c (.rows 1 []),.c (.int .i64 0)]
(.lt none (.bin .lss) [.v 11,.v 9] 1 <|
(.ite (.v 12)
(.lt none .inb [.v 7,.v 11] 0 <|
(.lt none (.row 1 0 [false]) [.v 7,.v 11] 1 <|
(.lt none .inb [.v 13,.c (.int .i64 0)] 0 <|
(.lt none (.row 1 0 [true]) [.v 13,.c (.int .i64 0)] 1 <|
(.lt none .inb [.v 13,.c (.int .i64 1)] 0 <|
(.lt none (.row 1 0 [true]) [.v 13,.c (.int .i64 1)] 1 <|
(.call none 120 [.v 0,.v 1,.v 14,.v 15] 10 [] <|
(.lt none (.bin .mul) [.c (.int .i64 100),.v 24] 1 <|
(.lt none .inb [.v 13,.c (.int .i64 0)] 0 <|
(.lt none (.row 1 0 [true]) [.v 13,.c (.int .i64 0)] 1 <|
(.lt none (.bin .mul) [.c (.int .i64 10),.v 27] 1 <|
(.lt none (.bin .add) [.v 26,.v 28] 1 <|
(.lt none .inb [.v 13,.c (.int .i64 1)] 0 <|
(.lt none (.row 1 0 [true]) [.v 13,.c (.int .i64 1)] 1 <|
(.lt none (.bin .add) [.v 29,.v 30] 1 <|
(.lt none (.mk 1 1) [.v 31] 1 <|
(.lt none (.app 1 8 true) [.v 10,.v 32] 1 <|
(.lt none (.bin .add) [.v 11,.c (.int .i64 1)] 1 <|
(.leaf .cont [.v 33,.v 34] ())))))))))))))))))))
(.leaf (.yield 5) [.v 10] ())))) <|
(.call none 124 [.v 8,.v 10] 1 [] <|
(.lt none (.dep 99) [.v 11] 0 <|
(.lt none .len [.v 11] 1 <|
(.bind 7
(.loop [.v 7,.c (.rows 1 []),.c (.int .i64 0)]
(.lt none (.bin .lss) [.v 15,.v 12] 1 <|
(.ite (.v 16)
(.lt none .inb [.v 11,.v 15] 0 <|
(.lt none (.row 1 0 [true]) [.v 11,.v 15] 1 <|
(.lt none .inb [.v 13,.v 17] 0 <|
(.lt none (.row 1 0 [false]) [.v 13,.v 17] 1 <|
(.lt none (.mk 1 1) [.v 18] 1 <|
(.lt none (.app 1 24 false) [.v 14,.v 19] 1 <|
(.lt none (.bin .add) [.v 15,.c (.int .i64 1)] 1 <|
(.leaf .cont [.v 13,.v 20,.v 21] ()))))))))
(.leaf (.yield 7) [.v 14] ())))) <|
(.leaf .ret [.v 13] ())))))))))))))
def Abq:Tm Unit :=
(.call none 117 [.v 0,.v 1] 1 [] <|
(.lt none .len [.v 2] 1 <|
(.bind 1
(.loop [.c (.rows 1 []),.v 2,.c (.int .i64 0)]
(.lt none (.bin .lss) [.v 6,.v 3] 1 <|
(.ite (.v 7)
(.bind 0
(.lt none .inb [.v 5,.v 6] 0 <|
(.lt none (.row 1 0 [false]) [.v 5,.v 6] 1 <|
(.lt none .inb [.v 8,.c (.int .i64 0)] 0 <|
(.lt none (.row 1 0 [true]) [.v 8,.c (.int .i64 0)] 1 <|
(.lt none .inb [.v 8,.c (.int .i64 1)] 0 <|
(.lt none (.row 1 0 [true]) [.v 8,.c (.int .i64 1)] 1 <|
(.call none 118 [.v 0,.v 1,.v 9,.v 10] 1 [] <|
(.lt none .len [.v 11] 1 <|
(.lt none (.bin .eql) [.v 12,.c (.int .i64 0)] 1 <|
(.ite (.v 13)
(.lt none (.mk 1 1) [.v 8] 1 <|
(.lt none (.app 1 24 false) [.v 4,.v 14] 1 <|
(.leaf (.yield 0) [.v 15] ())))
(.leaf (.yield 0) [.v 4] ()))))))))))) <|
(.lt none (.bin .add) [.v 6,.c (.int .i64 1)] 1 <|
(.leaf .cont [.v 8,.v 5,.v 9] ())))
(.leaf (.yield 1) [.v 4] ())))) <|
(.leaf .ret [.v 4] ()))))
def Abp:Tm Unit :=
(.lt none .len [.v 1] 1 <|
(.bind 1
(.loop [.c (.rows 1 []),.c (.int .i64 0)]
(.lt none (.bin .lss) [.v 4,.v 2] 1 <|
(.ite (.v 5)
(.lt none .inb [.v 1,.v 4] 0 <|
(.lt none (.row 1 0 [false]) [.v 1,.v 4] 1 <|
(.lt none .len [.v 6] 1 <|
(.bind 3
(.loop [.v 3,.c (.int .i64 0)]
(.lt none (.bin .lss) [.v 9,.v 7] 1 <|
(.ite (.v 10)
(.bind 0
(.lt none .inb [.v 6,.v 9] 0 <|
(.lt none (.row 10 0 [true,true,true,true,true,true,true,true,true,false]) [.v 6,.v 9] 10 <|
(.lt none (.bin .eql) [.v 13,.c (.int .i64 3)] 1 <|
(.ite (.v 21)
(.lt none (.bin .add) [.v 9,.c (.int .i64 1)] 1 <|
(.lt none (.mk 1 2) [.v 4,.v 22] 1 <|
(.lt none (.mk 1 1) [.v 23] 1 <|
(.lt none (.app 1 24 false) [.v 8,.v 24] 1 <|
(.leaf (.yield 0) [.v 25] ())))))
(.leaf (.yield 0) [.v 8] ()))))) <|
(.lt none (.bin .add) [.v 9,.c (.int .i64 1)] 1 <|
(.leaf .cont [.v 11,.v 12] ())))
(.leaf (.yield 3) [.v 8] ())))) <|
(.lt none (.bin .add) [.v 4,.c (.int .i64 1)] 1 <|
(.leaf .cont [.v 8,.v 9] ()))))))
(.leaf (.yield 1) [.v 3] ())))) <|
(.leaf .ret [.v 3] ())))
def Abo:Tm Unit :=
(.lt none (.mk 1 2) [.v 2,.v 3] 1 <|
(.lt none (.mk 1 1) [.v 4] 1 <|
(.bind 1
(.loop [.v 5,.c (.rows 1 []),.c (.int .i64 0)]
(.lt none .len [.v 6] 1 <|
(.lt none (.bin .lss) [.v 8,.v 9] 1 <|
(.ite (.v 10)
(.lt none .inb [.v 6,.v 8] 0 <|
(.lt none (.row 1 0 [false]) [.v 6,.v 8] 1 <|
(.lt none .inb [.v 11,.c (.int .i64 0)] 0 <|
(.lt none (.row 1 0 [true]) [.v 11,.c (.int .i64 0)] 1 <|
(.lt none .inb [.v 6,.v 8] 0 <|
(.lt none (.row 1 0 [false]) [.v 6,.v 8] 1 <|
(.lt none .inb [.v 13,.c (.int .i64 1)] 0 <|
(.lt none (.row 1 0 [true]) [.v 13,.c (.int .i64 1)] 1 <|
(.call none 119 [.v 0,.v 1,.v 12,.v 14] 1 [] <|
(.lt none .len [.v 15] 1 <|
(.bind 3
(.loop [.v 6,.v 7,.v 15,.c (.int .i64 0)]
(.lt none (.bin .lss) [.v 20,.v 16] 1 <|
(.ite (.v 21)
(.bind 4
(.lt none .inb [.v 19,.v 20] 0 <|
(.lt none (.row 1 0 [false]) [.v 19,.v 20] 1 <|
(.call none 121 [.v 17,.v 22] 1 [] <|
(.lt none (.bin .geq) [.v 23,.c (.int .i64 0)] 1 <|
(.call (some (.v 24,false)) 121 [.v 18,.v 22] 1 [] <|
(.lt (some (.v 24,false)) (.bin .geq) [.v 25,.c (.int .i64 0)] 1 <|
(.lt none .pick [.v 24,.c (.bool true),.v 26] 1 <|
(.ite (.v 27)
(.leaf (.yield 4) [.v 17,.v 18,.c .undef,.c .undef] ())
(.lt none .inb [.v 22,.c (.int .i64 0)] 0 <|
(.lt none (.row 1 0 [true]) [.v 22,.c (.int .i64 0)] 1 <|
(.lt none .inb [.v 22,.c (.int .i64 1)] 0 <|
(.lt none (.row 1 0 [true]) [.v 22,.c (.int .i64 1)] 1 <|
(.call none 120 [.v 0,.v 1,.v 28,.v 29] 10 [] <|
(.lt none (.bin .eql) [.v 32,.c (.int .i64 3)] 1 <|
(.ite (.v 40)
(.lt none (.mk 1 1) [.v 22] 1 <|
(.lt none (.app 1 24 false) [.v 17,.v 41] 1 <|
(.leaf (.yield 4) [.v 42,.v 18,.c .undef,.c .undef] ())))
(.call none 122 [.v 18,.v 22] 1 [] <|
(.leaf (.yield 4) [.v 17,.v 41,.c .undef,.c .undef] ()))))))))))))))))) <|
(.lt none (.bin .add) [.v 20,.c (.int .i64 1)] 1 <|
(.leaf .cont [.v 22,.v 23,.v 19,.v 26] ())))
(.leaf (.yield 3) [.v 17,.v 18] ())))) <|
(.lt none (.bin .add) [.v 8,.c (.int .i64 1)] 1 <|
(.leaf .cont [.v 17,.v 18,.v 19] ())))))))))))))
(.leaf (.yield 1) [.v 7] ()))))) <|
(.leaf .ret [.v 6] ()))))
def Abn:Tm Unit :=
(.call none 120 [.v 0,.v 1,.v 2,.v 3] 10 [] <|
(.lt none .len [.v 13] 1 <|
(.bind 1
(.loop [.c (.rows 1 []),.c (.int .i64 0)]
(.lt none (.bin .lss) [.v 16,.v 14] 1 <|
(.ite (.v 17)
(.lt none .inb [.v 13,.v 16] 0 <|
(.lt none (.row 1 0 [true]) [.v 13,.v 16] 1 <|
(.bind 3
(.loop [.v 15,.c (.int .i64 1)]
(.lt none (.bin .leq) [.v 20,.v 18] 1 <|
(.ite (.v 21)
(.bind 0
(.lt none (.bin .neq) [.v 16,.v 2] 1 <|
(.lt (some (.v 22,false)) .id [.v 20] 1 <|
(.lt (some (.v 22,false)) .id [.v 3] 1 <|
(.lt (some (.v 22,false)) (.bin .neq) [.v 23,.v 24] 1 <|
(.lt none .pick [.v 22,.c (.bool true),.v 25] 1 <|
(.ite (.v 26)
(.lt none (.mk 1 2) [.v 16,.v 20] 1 <|
(.lt none (.mk 1 1) [.v 27] 1 <|
(.lt none (.app 1 24 false) [.v 19,.v 28] 1 <|
(.leaf (.yield 0) [.v 29,.c .undef,.c .undef,.c .undef] ()))))
(.leaf (.yield 0) [.v 19,.c .undef,.c .undef,.c .undef] ()))))))) <|
(.lt none (.bin .add) [.v 20,.c (.int .i64 1)] 1 <|
(.leaf .cont [.v 22,.v 26] ())))
(.leaf (.yield 3) [.v 19] ())))) <|
(.lt none (.bin .add) [.v 16,.c (.int .i64 1)] 1 <|
(.leaf .cont [.v 19,.v 20] ())))))
(.leaf (.yield 1) [.v 15] ())))) <|
(.leaf .ret [.v 15] ()))))
def Abm:Tm Unit :=
(.lt none .inb [.v 1,.v 2] 0 <|
(.lt none (.row 1 0 [false]) [.v 1,.v 2] 1 <|
(.lt none .len [.v 4] 1 <|
(.lt none (.bin .gtr) [.v 3,.v 5] 1 <|
(.ite (.v 6)
(.call none 11 [.v 0] 2 [] <|
(.leaf .ret [.c (.int .i64 0),.c (.int .i64 0),.c (.int .i64 0),.c (.int .i64 0),.c (.int .i64 0),.c (.int .i64 0),.c (.int .i64 0),.c (.int .i64 0),.v 7,.v 8] ()))
(.lt none .inb [.v 1,.v 2] 0 <|
(.lt none (.row 1 0 [false]) [.v 1,.v 2] 1 <|
(.lt none (.bin .sub) [.v 3,.c (.int .i64 1)] 1 <|
(.lt none .inb [.v 7,.v 8] 0 <|
(.lt none (.row 10 0 [true,true,true,true,true,true,true,true,true,false]) [.v 7,.v 8] 10 <|
(.call none 19 [.v 9,.v 10,.v 11,.v 12,.v 13,.v 14,.v 15,.v 16,.v 17,.v 18] 10 [] <|
(.leaf .ret [.v 19,.v 20,.v 21,.v 22,.v 23,.v 24,.v 25,.v 26,.v 27,.v 28] ()))))))))))))
def Abl:Tm Unit :=
(.lt none .len [.v 0] 1 <|
(.bind 1
(.loop [.c (.int .i64 0)]
(.lt none (.bin .lss) [.v 3,.v 2] 1 <|
(.ite (.v 4)
(.lt none .inb [.v 0,.v 3] 0 <|
(.lt none (.row 1 0 [false]) [.v 0,.v 3] 1 <|
(.call none 109 [.v 1,.v 5] 1 [] <|
(.ite (.v 6)
(.leaf .ret [.v 3] ())
(.lt none (.bin .add) [.v 3,.c (.int .i64 1)] 1 <|
(.leaf .cont [.v 7] ()))))))
(.leaf (.yield 1) [] ())))) <|
(.leaf .ret [.c (.int .i64 (-1))] ())))
def Abk:Tm Unit :=
(.lt none .len [.v 0] 1 <|
(.bind 1
(.loop [.v 2]
(.lt none (.bin .gtr) [.v 3,.c (.int .i64 0)] 1 <|
(.lt (some (.v 4,true)) .id [.v 3] 1 <|
(.lt (some (.v 4,true)) (.bin .sub) [.v 5,.c (.int .i64 1)] 1 <|
(.lt (some (.v 4,true)) .inb [.v 0,.v 6] 0 <|
(.lt (some (.v 4,true)) (.row 1 0 [false]) [.v 0,.v 6] 1 <|
(.lt (some (.v 4,true)) .inb [.v 7,.c (.int .i64 0)] 0 <|
(.lt (some (.v 4,true)) (.row 1 0 [true]) [.v 7,.c (.int .i64 0)] 1 <|
(.lt (some (.v 4,true)) .inb [.v 1,.c (.int .i64 0)] 0 <|
(.lt (some (.v 4,true)) (.row 1 0 [true]) [.v 1,.c (.int .i64 0)] 1 <|
(.lt (some (.v 4,true)) (.bin .gtr) [.v 8,.v 9] 1 <|
(.lt (some (.v 4,true)) .id [.v 10] 1 <|
(.lt (some (.v 11,false)) .id [.v 3] 1 <|
(.lt (some (.v 11,false)) (.bin .sub) [.v 12,.c (.int .i64 1)] 1 <|
(.lt (some (.v 11,false)) .inb [.v 0,.v 13] 0 <|
(.lt (some (.v 11,false)) (.row 1 0 [false]) [.v 0,.v 13] 1 <|
(.lt (some (.v 11,false)) .inb [.v 14,.c (.int .i64 0)] 0 <|
(.lt (some (.v 11,false)) (.row 1 0 [true]) [.v 14,.c (.int .i64 0)] 1 <|
(.lt (some (.v 11,false)) .inb [.v 1,.c (.int .i64 0)] 0 <|
(.lt (some (.v 11,false)) (.row 1 0 [true]) [.v 1,.c (.int .i64 0)] 1 <|
(.lt (some (.v 11,false)) (.bin .eql) [.v 15,.v 16] 1 <|
(.lt (some (.v 11,false)) .id [.v 17] 1 <|
(.lt (some (.v 18,true)) .id [.v 3] 1 <|
(.lt (some (.v 18,true)) (.bin .sub) [.v 19,.c (.int .i64 1)] 1 <|
(.lt (some (.v 18,true)) .inb [.v 0,.v 20] 0 <|
(.lt (some (.v 18,true)) (.row 1 0 [false]) [.v 0,.v 20] 1 <|
(.lt (some (.v 18,true)) .inb [.v 21,.c (.int .i64 1)] 0 <|
(.lt (some (.v 18,true)) (.row 1 0 [true]) [.v 21,.c (.int .i64 1)] 1 <|
(.lt (some (.v 18,true)) .inb [.v 1,.c (.int .i64 1)] 0 <|
(.lt (some (.v 18,true)) (.row 1 0 [true]) [.v 1,.c (.int .i64 1)] 1 <|
(.lt (some (.v 18,true)) (.bin .gtr) [.v 22,.v 23] 1 <|
(.lt (some (.v 11,false)) .pick [.v 18,.v 24,.c (.bool false)] 1 <|
(.lt (some (.v 4,true)) .pick [.v 11,.c (.bool true),.v 25] 1 <|
(.lt none .pick [.v 4,.v 26,.c (.bool false)] 1 <|
(.ite (.v 27)
(.lt none (.bin .sub) [.v 3,.c (.int .i64 1)] 1 <|
(.leaf .cont [.v 28] ()))
(.leaf (.yield 1) [.v 3] ())))))))))))))))))))))))))))))))))))) <|
(.lt none (.mk 1 0) [] 1 <|
(.lt none .len [.v 0] 1 <|
(.lt none (.sub 1 false) [.v 0,.v 3,.v 5] 1 <|
(.lt none (.app 1 24 false) [.v 4,.v 6] 1 <|
(.lt none (.mk 1 0) [] 1 <|
(.lt none (.sub 1 false) [.v 0,.c (.int .i64 0),.v 3] 1 <|
(.lt none (.app 1 24 false) [.v 8,.v 9] 1 <|
(.lt none (.mk 1 1) [.v 1] 1 <|
(.lt none (.app 1 24 false) [.v 10,.v 11] 1 <|
(.lt none (.app 1 24 false) [.v 12,.v 7] 1 <|
(.leaf .ret [.v 13] ())))))))))))))
def Abj:Tm Unit :=
(.call none 117 [.v 0,.v 1] 1 [] <|
(.lt none .len [.v 2] 1 <|
(.bind 1
(.loop [.c (.rows 1 []),.c (.int .i64 0)]
(.lt none (.bin .lss) [.v 5,.v 3] 1 <|
(.ite (.v 6)
(.lt none .inb [.v 2,.v 5] 0 <|
(.lt none (.row 1 0 [false]) [.v 2,.v 5] 1 <|
(.lt none .inb [.v 7,.c (.int .i64 0)] 0 <|
(.lt none (.row 1 0 [true]) [.v 7,.c (.int .i64 0)] 1 <|
(.lt none .inb [.v 7,.c (.int .i64 1)] 0 <|
(.lt none (.row 1 0 [true]) [.v 7,.c (.int .i64 1)] 1 <|
(.call none 119 [.v 0,.v 1,.v 8,.v 9] 1 [] <|
(.lt none .len [.v 10] 1 <|
(.bind 3
(.loop [.c (.rows 1 []),.c (.int .i64 0)]
(.lt none (.bin .lss) [.v 13,.v 11] 1 <|
(.ite (.v 14)
(.bind 0
(.lt none .inb [.v 10,.v 13] 0 <|
(.lt none (.row 1 0 [false]) [.v 10,.v 13] 1 <|
(.call none 121 [.v 2,.v 15] 1 [] <|
(.lt none (.bin .geq) [.v 16,.c (.int .i64 0)] 1 <|
(.ite (.v 17)
(.call none 14 [.v 12,.v 16] 1 [] <|
(.leaf (.yield 0) [.v 18] ()))
(.leaf (.yield 0) [.v 12] ())))))) <|
(.lt none (.bin .add) [.v 13,.c (.int .i64 1)] 1 <|
(.leaf .cont [.v 15,.v 16] ())))
(.leaf (.yield 3) [.v 12] ())))) <|
(.lt none (.mk 1 1) [.v 12] 1 <|
(.lt none (.app 1 24 false) [.v 4,.v 13] 1 <|
(.lt none (.bin .add) [.v 5,.c (.int .i64 1)] 1 <|
(.leaf .cont [.v 14,.v 15] ())))))))))))))
(.leaf (.yield 1) [.v 4] ())))) <|
(.leaf .ret [.v 2,.v 4] ()))))
def Abi:Tm Unit :=
(.call none 125 [.v 0] 1 [] <|
(.lt none .len [.v 2] 1 <|
(.bind 1
(.loop [.c (.rows 1 []),.c (.int .i64 0)]
(.lt none (.bin .lss) [.v 5,.v 3] 1 <|
(.ite (.v 6)
(.lt none .inb [.v 2,.v 5] 0 <|
(.lt none (.row 1 0 [false]) [.v 2,.v 5] 1 <|
(.call none 128 [.v 7,.v 1] 1 [] <|
(.lt none (.app 1 8 true) [.v 4,.v 8] 1 <|
(.lt none (.bin .add) [.v 5,.c (.int .i64 1)] 1 <|
(.leaf .cont [.v 9,.v 10] ()))))))
(.leaf (.yield 1) [.v 4] ())))) <|
(.leaf .ret [.v 4] ()))))
def Abh:Tm Unit :=
(.call none 126 [.v 0] 1 [] <|
(.bind 1
(.loop [.v 1,.c (.rows 1 [])]
(.lt none .len [.v 2] 1 <|
(.lt none (.bin .gtr) [.v 4,.c (.int .i64 0)] 1 <|
(.ite (.v 5)
(.lt none .len [.v 2] 1 <|
(.bind 3
(.loop [.c (.int .i64 0)]
(.lt none (.bin .lss) [.v 7,.v 6] 1 <|
(.ite (.v 8)
(.lt none .inb [.v 2,.v 7] 0 <|
(.lt none (.row 1 0 [false]) [.v 2,.v 7] 1 <|
(.lt none .len [.v 9] 1 <|
(.bind 5
(.loop [.c (.bool true),.c (.int .i64 0)]
(.lt none (.bin .lss) [.v 12,.v 10] 1 <|
(.ite (.v 13)
(.lt none .inb [.v 9,.v 12] 0 <|
(.lt none (.row 1 0 [true]) [.v 9,.v 12] 1 <|
(.lt none .len [.v 2] 1 <|
(.bind 7
(.loop [.v 11,.c (.int .i64 0)]
(.lt none (.bin .lss) [.v 17,.v 15] 1 <|
(.ite (.v 18)
(.lt none .inb [.v 2,.v 17] 0 <|
(.lt none (.row 1 0 [false]) [.v 2,.v 17] 1 <|
(.lt none .len [.v 19] 1 <|
(.bind 9
(.loop [.v 16,.c (.int .i64 0)]
(.lt none (.bin .lss) [.v 22,.v 20] 1 <|
(.ite (.v 23)
(.lt none .inb [.v 19,.v 22] 0 <|
(.lt none (.row 1 0 [true]) [.v 19,.v 22] 1 <|
(.lt (some (.v 21,true)) .id [.v 17] 1 <|
(.lt (some (.v 21,true)) .id [.v 7] 1 <|
(.lt (some (.v 21,true)) (.bin .eql) [.v 25,.v 26] 1 <|
(.lt (some (.v 21,true)) .id [.v 27] 1 <|
(.lt (some (.v 28,false)) .id [.v 14] 1 <|
(.lt (some (.v 28,false)) .inb [.v 0,.v 29] 0 <|
(.lt (some (.v 28,false)) (.row 1 0 [false]) [.v 0,.v 29] 1 <|
(.lt (some (.v 28,false)) .id [.v 24] 1 <|
(.call (some (.v 28,false)) 15 [.v 30,.v 31] 1 [] <|
(.lt (some (.v 28,false)) .not [.v 32] 1 <|
(.lt (some (.v 21,true)) .pick [.v 28,.c (.bool true),.v 33] 1 <|
(.lt none .pick [.v 21,.v 34,.c (.bool false)] 1 <|
(.lt none (.bin .add) [.v 22,.c (.int .i64 1)] 1 <|
(.leaf .cont [.v 35,.v 36] ()))))))))))))))))
(.leaf (.yield 9) [.v 21] ())))) <|
(.lt none (.bin .add) [.v 17,.c (.int .i64 1)] 1 <|
(.leaf .cont [.v 21,.v 22] ()))))))
(.leaf (.yield 7) [.v 16] ())))) <|
(.lt none (.bin .add) [.v 12,.c (.int .i64 1)] 1 <|
(.leaf .cont [.v 16,.v 17] ()))))))
(.leaf (.yield 5) [.v 11] ())))) <|
(.ite (.v 11)
(.lt none (.mk 1 1) [.v 9] 1 <|
(.lt none (.app 1 24 false) [.v 3,.v 12] 1 <|
(.lt none (.mk 1 0) [] 1 <|
(.lt none (.sub 1 false) [.v 2,.c (.int .i64 0),.v 7] 1 <|
(.lt none (.app 1 24 false) [.v 14,.v 15] 1 <|
(.lt none (.bin .add) [.v 7,.c (.int .i64 1)] 1 <|
(.lt none .len [.v 2] 1 <|
(.lt none (.sub 1 false) [.v 2,.v 17,.v 18] 1 <|
(.lt none (.app 1 24 false) [.v 16,.v 19] 1 <|
(.leaf (.yield 3) [.v 20,.v 13] ()))))))))))
(.lt none (.bin .add) [.v 7,.c (.int .i64 1)] 1 <|
(.leaf .cont [.v 12] ())))))))
(.leaf (.yield 3) [.v 2,.v 3] ())))) <|
(.leaf .cont [.v 7,.v 8] ())))
(.leaf (.yield 1) [.v 3] ()))))) <|
(.leaf .ret [.v 2] ())))
def Abg:Tm Unit :=
(.lt none .len [.v 0] 1 <|
(.bind 1
(.loop [.c (.rows 1 []),.c (.int .i64 0)]
(.lt none (.bin .lss) [.v 3,.v 1] 1 <|
(.ite (.v 4)
(.call none 127 [.v 0,.v 3] 1 [] <|
(.lt none (.mk 1 1) [.v 5] 1 <|
(.lt none (.app 1 24 false) [.v 2,.v 6] 1 <|
(.lt none (.bin .add) [.v 3,.c (.int .i64 1)] 1 <|
(.leaf .cont [.v 7,.v 8] ())))))
(.leaf (.yield 1) [.v 2] ())))) <|
(.lt none .len [.v 0] 1 <|
(.bind 3
(.loop [.c (.rows 1 []),.c (.int .i64 0)]
(.lt none (.bin .lss) [.v 5,.v 3] 1 <|
(.ite (.v 6)
(.bind 0
(.lt none .inb [.v 2,.v 5] 0 <|
(.lt none (.row 1 0 [false]) [.v 2,.v 5] 1 <|
(.lt none .len [.v 7] 1 <|
(.bind 5
(.loop [.c (.rows 1 []),.c (.int .i64 0)]
(.lt none (.bin .lss) [.v 10,.v 8] 1 <|
(.ite (.v 11)
(.bind 0
(.lt none .inb [.v 7,.v 10] 0 <|
(.lt none (.row 1 0 [true]) [.v 7,.v 10] 1 <|
(.lt none .inb [.v 2,.v 12] 0 <|
(.lt none (.row 1 0 [false]) [.v 2,.v 12] 1 <|
(.call none 15 [.v 13,.v 5] 1 [] <|
(.ite (.v 14)
(.lt none (.mk 1 1) [.v 12] 1 <|
(.lt none (.app 1 8 true) [.v 9,.v 15] 1 <|
(.leaf (.yield 0) [.v 16] ())))
(.leaf (.yield 0) [.v 9] ()))))))) <|
(.lt none (.bin .add) [.v 10,.c (.int .i64 1)] 1 <|
(.leaf .cont [.v 12,.v 13] ())))
(.leaf (.yield 5) [.v 9] ())))) <|
(.lt none .inb [.v 9,.c (.int .i64 0)] 0 <|
(.lt none (.row 1 0 [true]) [.v 9,.c (.int .i64 0)] 1 <|
(.lt none (.bin .eql) [.v 10,.v 5] 1 <|
(.ite (.v 11)
(.lt none (.mk 1 1) [.v 9] 1 <|
(.lt none (.app 1 24 false) [.v 4,.v 12] 1 <|
(.leaf (.yield 0) [.v 13] ())))
(.leaf (.yield 0) [.v 4] ()))))))))) <|
(.lt none (.bin .add) [.v 5,.c (.int .i64 1)] 1 <|
(.leaf .cont [.v 7,.v 8] ())))
(.leaf (.yield 3) [.v 4] ())))) <|
(.leaf .ret [.v 4] ())))))
def Abf:Tm Unit :=
(.lt none (.mk 1 1) [.v 1] 1 <|
(.lt none (.mk 1 1) [.v 1] 1 <|
(.bind 1
(.loop [.v 2,.v 3,.c (.int .i64 0)]
(.lt none .len [.v 5] 1 <|
(.lt none (.bin .lss) [.v 6,.v 7] 1 <|
(.ite (.v 8)
(.lt none .inb [.v 5,.v 6] 0 <|
(.lt none (.row 1 0 [true]) [.v 5,.v 6] 1 <|
(.lt none .inb [.v 0,.v 9] 0 <|
(.lt none (.row 1 0 [false]) [.v 0,.v 9] 1 <|
(.lt none .len [.v 10] 1 <|
(.bind 3
(.loop [.v 4,.v 5,.c (.int .i64 0)]
(.lt none (.bin .lss) [.v 14,.v 11] 1 <|
(.ite (.v 15)
(.bind 0
(.lt none .inb [.v 10,.v 14] 0 <|
(.lt none (.row 1 0 [true]) [.v 10,.v 14] 1 <|
(.call none 15 [.v 13,.v 16] 1 [] <|
(.lt none .not [.v 17] 1 <|
(.ite (.v 18)
(.lt none (.mk 1 1) [.v 16] 1 <|
(.lt none (.app 1 8 true) [.v 13,.v 19] 1 <|
(.call none 14 [.v 12,.v 16] 1 [] <|
(.leaf (.yield 0) [.v 21,.v 20] ()))))
(.leaf (.yield 0) [.v 12,.v 13] ())))))) <|
(.lt none (.bin .add) [.v 14,.c (.int .i64 1)] 1 <|
(.leaf .cont [.v 16,.v 17,.v 18] ())))
(.leaf (.yield 3) [.v 12,.v 13] ())))) <|
(.lt none (.bin .add) [.v 6,.c (.int .i64 1)] 1 <|
(.leaf .cont [.v 12,.v 13,.v 14] ()))))))))
(.leaf (.yield 1) [.v 4] ()))))) <|
(.leaf .ret [.v 4] ()))))
def Abe:Tm Unit :=
(.lt none .len [.v 0] 1 <|
(.bind 1
(.loop [.c (.rows 1 []),.c (.int .i64 0)]
(.lt none (.bin .lss) [.v 4,.v 2] 1 <|
(.ite (.v 5)
(.lt none .inb [.v 0,.v 4] 0 <|
(.lt none (.row 1 0 [true]) [.v 0,.v 4] 1 <|
(.lt none .len [.v 3] 1 <|
(.bind 3
(.loop [.v 7]
(.lt none (.bin .gtr) [.v 8,.c (.int .i64 0)] 1 <|
(.lt (some (.v 9,true)) .id [.v 8] 1 <|
(.lt (some (.v 9,true)) (.bin .sub) [.v 10,.c (.int .i64 1)] 1 <|
(.lt (some (.v 9,true)) .inb [.v 3,.v 11] 0 <|
(.lt (some (.v 9,true)) (.row 1 0 [true]) [.v 3,.v 11] 1 <|
(.lt (some (.v 9,true)) .inb [.v 1,.v 12] 0 <|
(.lt (some (.v 9,true)) (.row 1 0 [true]) [.v 1,.v 12] 1 <|
(.lt (some (.v 9,true)) .id [.v 6] 1 <|
(.lt (some (.v 9,true)) .inb [.v 1,.v 14] 0 <|
(.lt (some (.v 9,true)) (.row 1 0 [true]) [.v 1,.v 14] 1 <|
(.lt (some (.v 9,true)) (.bin .gtr) [.v 13,.v 15] 1 <|
(.lt none .pick [.v 9,.v 16,.c (.bool false)] 1 <|
(.ite (.v 17)
(.lt none (.bin .sub) [.v 8,.c (.int .i64 1)] 1 <|
(.leaf .cont [.v 18] ()))
(.leaf (.yield 3) [.v 8,.c .undef,.c .undef,.c .undef,.c .undef,.c .undef,.c .undef,.c .undef] ()))))))))))))))) <|
(.lt none .len [.v 3] 1 <|
(.lt none (.sub 1 true) [.v 3,.v 8,.v 16] 1 <|
(.call none 21 [.v 17] 1 [] <|
(.lt none (.dep 99) [.v 18] 0 <|
(.lt none (.sub 1 false) [.v 3,.c (.int .i64 0),.v 8] 1 <|
(.lt none (.mk 1 1) [.v 6] 1 <|
(.lt none (.app 1 8 true) [.v 19,.v 20] 1 <|
(.lt none (.app 1 8 true) [.v 21,.v 18] 1 <|
(.lt none (.bin .add) [.v 4,.c (.int .i64 1)] 1 <|
(.leaf .cont [.v 22,.v 23] ()))))))))))))))
(.leaf (.yield 1) [.v 3] ())))) <|
(.leaf .ret [.v 3] ())))
def Abd:Tm Unit :=
(.call none 104 [.v 2,.v 3] 1 [] <|
(.lt none .not [.v 4] 1 <|
(.call (some (.v 5,false)) 130 [.v 2,.v 3,.v 0] 1 [] <|
(.lt (some (.v 5,false)) .not [.v 6] 1 <|
(.lt none .pick [.v 5,.c (.bool true),.v 7] 1 <|
(.call (some (.v 8,false)) 130 [.v 2,.v 3,.v 1] 1 [] <|
(.lt (some (.v 8,false)) .not [.v 9] 1 <|
(.lt none .pick [.v 8,.c (.bool true),.v 10] 1 <|
(.ite (.v 11)
(.leaf .ret [.c (.bool false),.c (.bool false)] ())
(.lt none .len [.v 0] 1 <|
(.bind 1
(.loop [.c (.int .i64 0)]
(.lt none (.bin .lss) [.v 13,.v 12] 1 <|
(.ite (.v 14)
(.lt none .inb [.v 0,.v 13] 0 <|
(.lt none (.row 1 0 [false]) [.v 0,.v 13] 1 <|
(.lt none (.sub 1 false) [.v 0,.c (.int .i64 0),.v 13] 1 <|
(.lt none .len [.v 16] 1 <|
(.bind 3
(.loop [.c (.int .i64 0)]
(.lt none (.bin .lss) [.v 18,.v 17] 1 <|
(.ite (.v 19)
(.lt none .inb [.v 16,.v 18] 0 <|
(.lt none (.row 1 0 [false]) [.v 16,.v 18] 1 <|
(.call none 121 [.v 1,.v 20] 1 [] <|
(.call none 121 [.v 1,.v 15] 1 [] <|
(.lt none (.bin .geq) [.v 21,.c (.int .i64 0)] 1 <|
(.lt (some (.v 23,true)) .id [.v 22] 1 <|
(.lt (some (.v 23,true)) (.bin .geq) [.v 24,.c (.int .i64 0)] 1 <|
(.lt none .pick [.v 23,.v 25,.c (.bool false)] 1 <|
(.lt (some (.v 26,true)) .id [.v 21] 1 <|
(.lt (some (.v 26,true)) .id [.v 22] 1 <|
(.lt (some (.v 26,true)) (.bin .gtr) [.v 27,.v 28] 1 <|
(.lt none .pick [.v 26,.v 29,.c (.bool false)] 1 <|
(.lt (some (.v 30,true)) .inb [.v 20,.c (.int .i64 0)] 0 <|
(.lt (some (.v 30,true)) (.row 1 0 [true]) [.v 20,.c (.int .i64 0)] 1 <|
(.lt (some (.v 30,true)) .inb [.v 20,.c (.int .i64 1)] 0 <|
(.lt (some (.v 30,true)) (.row 1 0 [true]) [.v 20,.c (.int .i64 1)] 1 <|
(.call (some (.v 30,true)) 120 [.v 2,.v 3,.v 31,.v 32] 10 [] <|
(.lt (some (.v 30,true)) .inb [.v 15,.c (.int .i64 0)] 0 <|
(.lt (some (.v 30,true)) (.row 1 0 [true]) [.v 15,.c (.int .i64 0)] 1 <|
(.lt (some (.v 30,true)) .inb [.v 15,.c (.int .i64 1)] 0 <|
(.lt (some (.v 30,true)) (.row 1 0 [true]) [.v 15,.c (.int .i64 1)] 1 <|
(.call (some (.v 30,true)) 120 [.v 2,.v 3,.v 43,.v 44] 10 [] <|
(.call (some (.v 30,true)) 12 [.v 36,.v 37,.v 38,.v 39,.v 40,.v 48,.v 49,.v 50,.v 51,.v 52] 1 [] <|
(.lt none .pick [.v 30,.v 55,.c (.bool false)] 1 <|
(.ite (.v 56)
(.leaf .ret [.c (.bool false),.c (.bool true)] ())
(.lt none (.bin .add) [.v 18,.c (.int .i64 1)] 1 <|
(.leaf .cont [.v 57] ())))))))))))))))))))))))))))
(.leaf (.yield 3) [] ())))) <|
(.lt none (.bin .add) [.v 13,.c (.int .i64 1)] 1 <|
(.leaf .cont [.v 18] ())))))))
(.leaf (.yield 1) [] ())))) <|
(.leaf .ret [.c (.bool true),.c (.bool true)] ()))))))))))))
def Abc:Tm Unit :=
(.lt none .len [.v 2] 1 <|
(.bind 1
(.loop [.c (.int .i64 0)]
(.lt none (.bin .lss) [.v 4,.v 3] 1 <|
(.ite (.v 5)
(.lt none .inb [.v 2,.v 4] 0 <|
(.lt none (.row 1 0 [false]) [.v 2,.v 4] 1 <|
(.lt none .len [.v 6] 1 <|
(.lt none (.bin .neq) [.v 7,.c (.int .i64 2)] 1 <|
(.lt (some (.v 8,false)) .id [.v 0] 1 <|
(.lt (some (.v 8,false)) .inb [.v 6,.c (.int .i64 0)] 0 <|
(.lt (some (.v 8,false)) (.row 1 0 [true]) [.v 6,.c (.int .i64 0)] 1 <|
(.lt (some (.v 8,false)) .inb [.v 6,.c (.int .i64 1)] 0 <|
(.lt (some (.v 8,false)) (.row 1 0 [true]) [.v 6,.c (.int .i64 1)] 1 <|
(.call (some (.v 8,false)) 131 [.v 9,.v 10,.v 11] 1 [] <|
(.lt (some (.v 8,false)) .not [.v 12] 1 <|
(.lt none .pick [.v 8,.c (.bool true),.v 13] 1 <|
(.lt (some (.v 14,false)) .id [.v 4] 1 <|
(.lt (some (.v 14,false)) (.sub 1 false) [.v 2,.c (.int .i64 0),.v 15] 1 <|
(.call (some (.v 14,false)) 121 [.v 16,.v 6] 1 [] <|
(.lt (some (.v 14,false)) (.bin .geq) [.v 17,.c (.int .i64 0)] 1 <|
(.lt none .pick [.v 14,.c (.bool true),.v 18] 1 <|
(.ite (.v 19)
(.leaf .ret [.c (.bool false)] ())
(.lt none (.bin .add) [.v 4,.c (.int .i64 1)] 1 <|
(.leaf .cont [.v 20] ()))))))))))))))))))))
(.leaf (.yield 1) [] ())))) <|
(.leaf .ret [.c (.bool true)] ())))
def Abb:Tm Unit :=
(.lt none (.bin .sub) [.v 0,.c (.int .i64 1)] 1 <|
(.call none 107 [.v 1,.c (.int .i64 0),.v 3] 1 [] <|
(.lt (some (.v 4,true)) .id [.v 2] 1 <|
(.call (some (.v 4,true)) 107 [.v 5,.c (.int .i64 1),.c (.int .i64 6)] 1 [] <|
(.lt none .pick [.v 4,.v 6,.c (.bool false)] 1 <|
(.leaf .ret [.v 7] ()))))))
theorem Qbx:∀ n,tN Tryz.prog (Pad [(52,.tm Gbe)]) n 52 Gbv:=fun n=>contracts Dbg (by kernel_rfl) (Taj (List.forall_mem_cons.2 ⟨Yal (E:=⟨iZ tiL,[(52,Gbv)],0,0,false,false,[],[],[],0⟩) Tryz.func188 (by kernel_rfl) (tm:=Gbe) (by kernel_rfl) (by kernel_rfl),List.forall_mem_nil _⟩)) n 52 Gbv (by simp)
def Lb1:Go.Shelf.Ren:=⟨fun|41=>188|n=>n,fun|4=>4|22=>45|23=>3|n=>n,fun n=>n⟩
theorem Ibb:Go.Proofs.SlLaysE0.n41 Tryz.prog Lb1:={ mixed:=by kernel_rfl,f41:=⟨Tryz.f188.name,by kernel_rfl,Tryz.func188.trans (congrArg some (by kernel_rfl))⟩,t4:=Tryz.underlying4,a4:=Tryz.isAgg4,z4:=Tryz.sizeOf4,v4:=Tryz.zeroValue4,t22:=Tryz.underlying45,a22:=Tryz.isAgg45,z22:=Tryz.sizeOf45,v22:=Tryz.zeroValue45 }
noncomputable def Pbe:List D → Option (List D):=Dbx 1 (Pad [(52,.tm Gbe)]) 52
noncomputable def T:Nat → Ent:=Pad [(0,.tm tm0),(1,.tm tm1),(2,.tm tm2),(3,.tm tm3),(4,.tm tm4),(5,.tm tm5),(6,.tm tm6),(7,.tm tm7),(8,.tm tm8),(9,.tm tm9),(10,.tm Lbi),(11,.tm Gbf),(12,.tm Lbh),(13,.tm Lbg),(14,.tm Lbf),(15,.tm Lbe),(16,.tm Lbd),(17,.tm Lbc),(18,.tm Lbb),(19,.tm Lba),(20,.tm Kb9),(21,.tm Kb8),(22,.tm Kb7),(23,.tm Kb6),(24,.tm Kb5),(25,.tm Kb4),(26,.tm Kb3),(27,.tm Kb2),(28,.tm Kb1),(29,.tm Kb0),(30,.tm Kbz),(31,.tm Kby),(32,.tm Kbx),(33,.tm Kbw),(34,.tm Kbv),(35,.tm Kbu),(36,.tm Kbt),(37,.tm Kbs),(38,.tm Kbr),(39,.tm Kbq),(40,.tm Kbp),(41,.tm Kbo),(42,.tm Kbn),(43,.tm Kbm),(44,.tm Kbl),(45,.tm Kbk),(46,.tm Kbj),(47,.tm Kbi),(48,.tm Kbh),(49,.tm Kbg),(50,.tm Kbf),(51,.tm Kbe),(52,.ext Pbe),(53,.tm Kbd),(54,.tm Kbc),(55,.tm Kbb),(56,.tm Kba),(57,.tm Jb9),(58,.tm Jb8),(59,.tm Jb7),(60,.tm Jb6),(61,.tm Jb5),(62,.tm Jb4),(63,.tm Jb3),(64,.tm Jb2),(65,.tm Jb1),(66,.tm Jb0),(67,.tm Jbz),(68,.tm Jby),(69,.tm Jbx),(70,.tm Jbw),(71,.tm Jbv),(72,.tm Jbu),(73,.tm Jbt),(74,.tm Jbs),(75,.tm Jbr),(76,.tm Jbq),(77,.tm Jbp),(78,.tm Jbo),(79,.tm Jbn),(80,.tm Jbm),(81,.tm Jbl),(82,.ext Gac),(83,.tm Jbk),(84,.tm Jbj),(85,.tm Jbi),(86,.tm Jbh),(87,.tm Jbg),(88,.tm Jbf),(89,.tm Jbe),(90,.tm Jbd),(91,.tm Jbc),(92,.ext (Fbl 1)),(93,.ext Jah),(94,.tm Jbb),(95,.tm Jba),(96,.tm Ib9),(97,.tm Ib8),(98,.tm Ib7),(99,.tm Ib6),(100,.tm Ab6),(101,.tm Ab5),(102,.tm Ab4),(103,.tm Ab3),(104,.tm Ab2),(105,.tm Ab1),(106,.tm Ab0),(107,.tm Abz),(108,.tm Aby),(109,.tm Abx),(110,.tm Abw),(111,.tm Abv),(112,.tm Abu),(113,.tm Abt),(114,.tm Abs),(115,.tm Abr),(116,.tm Abq),(117,.tm Abp),(118,.tm Abo),(119,.tm Abn),(120,.tm Abm),(121,.tm Abl),(122,.tm Abk),(123,.tm Abj),(124,.tm Abi),(125,.tm Abh),(126,.tm Abg),(127,.tm Abf),(128,.tm Abe),(129,.tm Abd),(130,.tm Abc),(131,.tm Abb)]
abbrev K:=Ta3 Tryz.prog T (iZ tiL) sigs
theorem o52:Ta3 Tryz.prog T (iZ tiL) sigs 52 Gbv:=Zae (m:=98) Ibb rfl (by kernel_rfl) Tryz.sizeOf3 Qbx rfl
def Tryz.laysF110_ren:Go.Shelf.Ren:=⟨fun|6=>110|15=>161|14=>160|28=>197|29=>198|20=>189|21=>190|22=>191|23=>192|24=>193|25=>194|26=>195|27=>196|46=>214|47=>215|48=>216|49=>217|50=>218|57=>231|n=>n,fun|22=>26|24=>45|25=>132|3=>3|39=>175|0=>0|53=>199|55=>95|4=>4|46=>192|45=>191|50=>196|5=>5|9=>9|66=>210|70=>214|76=>225|77=>99|n=>n,fun|n=>n⟩
theorem Tryz.laysF110:Go.Proofs.SlLaysF.n6 Tryz.prog Tryz.laysF110_ren:={
  mixed:=by kernel_rfl
  f6:=⟨Tryz.f110.name,by decide,Tryz.func110.trans (congrArg some (by kernel_rfl))⟩
  f14:=⟨Tryz.f160.name,by decide,Tryz.func160.trans (congrArg some (by kernel_rfl))⟩
  f15:=Tryz.func161.trans (congrArg some (by kernel_rfl))
  f20:=⟨Tryz.f189.name,by decide,Tryz.func189.trans (congrArg some (by kernel_rfl))⟩
  f21:=⟨Tryz.f190.name,by decide,Tryz.func190.trans (congrArg some (by kernel_rfl))⟩
  f22:=⟨Tryz.f191.name,by decide,Tryz.func191.trans (congrArg some (by kernel_rfl))⟩
  f23:=⟨Tryz.f192.name,by decide,Tryz.func192.trans (congrArg some (by kernel_rfl))⟩
  f24:=⟨Tryz.f193.name,by decide,Tryz.func193.trans (congrArg some (by kernel_rfl))⟩
  f25:=⟨Tryz.f194.name,by decide,Tryz.func194.trans (congrArg some (by kernel_rfl))⟩
  f26:=⟨Tryz.f195.name,by decide,Tryz.func195.trans (congrArg some (by kernel_rfl))⟩
  f27:=⟨Tryz.f196.name,by decide,Tryz.func196.trans (congrArg some (by kernel_rfl))⟩
  f28:=Tryz.func197.trans (congrArg some (by kernel_rfl))
  f29:=Tryz.func198.trans (congrArg some (by kernel_rfl))
  f46:=⟨Tryz.f214.name,by decide,Tryz.func214.trans (congrArg some (by kernel_rfl))⟩
  f47:=Tryz.func215.trans (congrArg some (by kernel_rfl))
  f48:=Tryz.func216.trans (congrArg some (by kernel_rfl))
  f49:=⟨Tryz.f217.name,by decide,Tryz.func217.trans (congrArg some (by kernel_rfl))⟩
  f50:=⟨Tryz.f218.name,by decide,Tryz.func218.trans (congrArg some (by kernel_rfl))⟩
  f57:=⟨Tryz.f231.name,by decide,Tryz.func231.trans (congrArg some (by kernel_rfl))⟩
  t0:=Tryz.underlying0
  a0:=Tryz.isAgg0
  z0:=Tryz.sizeOf0
  v0:=Tryz.zeroValue0
  t3:=Tryz.underlying3
  a3:=Tryz.isAgg3
  z3:=Tryz.sizeOf3
  v3:=Tryz.zeroValue3
  t4:=Tryz.underlying4
  a4:=Tryz.isAgg4
  z4:=Tryz.sizeOf4
  v4:=Tryz.zeroValue4
  t5:=Tryz.underlying5
  a5:=Tryz.isAgg5
  z5:=Tryz.sizeOf5
  v5:=Tryz.zeroValue5
  t9:=Tryz.underlying9
  a9:=Tryz.isAgg9
  z9:=Tryz.sizeOf9
  v9:=Tryz.zeroValue9
  t22:=Tryz.underlying26
  a22:=Tryz.isAgg26
  z22:=Tryz.sizeOf26
  v22:=Tryz.zeroValue26
  a24:=Tryz.isAgg45
  z24:=Tryz.sizeOf45
  t25:=Tryz.underlying132
  a25:=Tryz.isAgg132
  z25:=Tryz.sizeOf132
  v25:=Tryz.zeroValue132
  t39:=Tryz.underlying175
  a39:=Tryz.isAgg175
  z39:=Tryz.sizeOf175
  v39:=Tryz.zeroValue175
  t45:=Tryz.underlying191
  a45:=Tryz.isAgg191
  z45:=Tryz.sizeOf191
  v45:=Tryz.zeroValue191
  t46:=Tryz.underlying192
  a46:=Tryz.isAgg192
  z46:=Tryz.sizeOf192
  v46:=Tryz.zeroValue192
  t50:=Tryz.underlying196
  a50:=Tryz.isAgg196
  z50:=Tryz.sizeOf196
  v50:=Tryz.zeroValue196
  t53:=Tryz.underlying199
  a53:=Tryz.isAgg199
  z53:=Tryz.sizeOf199
  v53:=Tryz.zeroValue199
  t55:=Tryz.underlying95
  a55:=Tryz.isAgg95
  z55:=Tryz.sizeOf95
  v55:=Tryz.zeroValue95
  t66:=Tryz.underlying210
  a66:=Tryz.isAgg210
  z66:=Tryz.sizeOf210
  v66:=Tryz.zeroValue210
  t70:=Tryz.underlying214
  a70:=Tryz.isAgg214
  z70:=Tryz.sizeOf214
  v70:=Tryz.zeroValue214
  t76:=Tryz.underlying225
  a76:=Tryz.isAgg225
  z76:=Tryz.sizeOf225
  v76:=Tryz.zeroValue225
  t77:=Tryz.underlying99
  a77:=Tryz.isAgg99
  z77:=Tryz.sizeOf99
  v77:=Tryz.zeroValue99 }
def Tryz.laysF170_ren:Go.Shelf.Ren:=⟨fun|6=>170|15=>161|14=>208|28=>197|29=>198|20=>221|21=>222|22=>223|23=>224|24=>225|25=>226|26=>227|27=>228|46=>232|47=>215|48=>216|49=>233|50=>234|57=>235|n=>n,fun|22=>45|24=>3|25=>176|3=>3|39=>175|0=>0|53=>199|55=>95|4=>4|46=>192|45=>191|50=>196|5=>5|9=>9|66=>210|70=>214|76=>225|77=>99|n=>n,fun|n=>n⟩
theorem Tryz.laysF170:Go.Proofs.SlLaysF.n6 Tryz.prog Tryz.laysF170_ren:={
  mixed:=by kernel_rfl
  f6:=⟨Tryz.f170.name,by decide,Tryz.func170.trans (congrArg some (by kernel_rfl))⟩
  f14:=⟨Tryz.f208.name,by decide,Tryz.func208.trans (congrArg some (by kernel_rfl))⟩
  f15:=Tryz.func161.trans (congrArg some (by kernel_rfl))
  f20:=⟨Tryz.f221.name,by decide,Tryz.func221.trans (congrArg some (by kernel_rfl))⟩
  f21:=⟨Tryz.f222.name,by decide,Tryz.func222.trans (congrArg some (by kernel_rfl))⟩
  f22:=⟨Tryz.f223.name,by decide,Tryz.func223.trans (congrArg some (by kernel_rfl))⟩
  f23:=⟨Tryz.f224.name,by decide,Tryz.func224.trans (congrArg some (by kernel_rfl))⟩
  f24:=⟨Tryz.f225.name,by decide,Tryz.func225.trans (congrArg some (by kernel_rfl))⟩
  f25:=⟨Tryz.f226.name,by decide,Tryz.func226.trans (congrArg some (by kernel_rfl))⟩
  f26:=⟨Tryz.f227.name,by decide,Tryz.func227.trans (congrArg some (by kernel_rfl))⟩
  f27:=⟨Tryz.f228.name,by decide,Tryz.func228.trans (congrArg some (by kernel_rfl))⟩
  f28:=Tryz.func197.trans (congrArg some (by kernel_rfl))
  f29:=Tryz.func198.trans (congrArg some (by kernel_rfl))
  f46:=⟨Tryz.f232.name,by decide,Tryz.func232.trans (congrArg some (by kernel_rfl))⟩
  f47:=Tryz.func215.trans (congrArg some (by kernel_rfl))
  f48:=Tryz.func216.trans (congrArg some (by kernel_rfl))
  f49:=⟨Tryz.f233.name,by decide,Tryz.func233.trans (congrArg some (by kernel_rfl))⟩
  f50:=⟨Tryz.f234.name,by decide,Tryz.func234.trans (congrArg some (by kernel_rfl))⟩
  f57:=⟨Tryz.f235.name,by decide,Tryz.func235.trans (congrArg some (by kernel_rfl))⟩
  t0:=Tryz.underlying0
  a0:=Tryz.isAgg0
  z0:=Tryz.sizeOf0
  v0:=Tryz.zeroValue0
  t3:=Tryz.underlying3
  a3:=Tryz.isAgg3
  z3:=Tryz.sizeOf3
  v3:=Tryz.zeroValue3
  t4:=Tryz.underlying4
  a4:=Tryz.isAgg4
  z4:=Tryz.sizeOf4
  v4:=Tryz.zeroValue4
  t5:=Tryz.underlying5
  a5:=Tryz.isAgg5
  z5:=Tryz.sizeOf5
  v5:=Tryz.zeroValue5
  t9:=Tryz.underlying9
  a9:=Tryz.isAgg9
  z9:=Tryz.sizeOf9
  v9:=Tryz.zeroValue9
  t22:=Tryz.underlying45
  a22:=Tryz.isAgg45
  z22:=Tryz.sizeOf45
  v22:=Tryz.zeroValue45
  a24:=Tryz.isAgg3
  z24:=Tryz.sizeOf3
  t25:=Tryz.underlying176
  a25:=Tryz.isAgg176
  z25:=Tryz.sizeOf176
  v25:=Tryz.zeroValue176
  t39:=Tryz.underlying175
  a39:=Tryz.isAgg175
  z39:=Tryz.sizeOf175
  v39:=Tryz.zeroValue175
  t45:=Tryz.underlying191
  a45:=Tryz.isAgg191
  z45:=Tryz.sizeOf191
  v45:=Tryz.zeroValue191
  t46:=Tryz.underlying192
  a46:=Tryz.isAgg192
  z46:=Tryz.sizeOf192
  v46:=Tryz.zeroValue192
  t50:=Tryz.underlying196
  a50:=Tryz.isAgg196
  z50:=Tryz.sizeOf196
  v50:=Tryz.zeroValue196
  t53:=Tryz.underlying199
  a53:=Tryz.isAgg199
  z53:=Tryz.sizeOf199
  v53:=Tryz.zeroValue199
  t55:=Tryz.underlying95
  a55:=Tryz.isAgg95
  z55:=Tryz.sizeOf95
  v55:=Tryz.zeroValue95
  t66:=Tryz.underlying210
  a66:=Tryz.isAgg210
  z66:=Tryz.sizeOf210
  v66:=Tryz.zeroValue210
  t70:=Tryz.underlying214
  a70:=Tryz.isAgg214
  z70:=Tryz.sizeOf214
  v70:=Tryz.zeroValue214
  t76:=Tryz.underlying225
  a76:=Tryz.isAgg225
  z76:=Tryz.sizeOf225
  v76:=Tryz.zeroValue225
  t77:=Tryz.underlying99
  a77:=Tryz.isAgg99
  z77:=Tryz.sizeOf99
  v77:=Tryz.zeroValue99 }
def Tryz.laysD207_ren:Go.Shelf.Ren:=⟨fun|45=>207|n=>n,fun|22=>26|23=>45|3=>3|4=>4|0=>0|n=>n,fun|n=>n⟩
theorem Tryz.laysD207:Go.Proofs.SlLaysE0.n45 Tryz.prog Tryz.laysD207_ren:={
  mixed:=by kernel_rfl
  f45:=⟨Tryz.f207.name,by decide,Tryz.func207.trans (congrArg some (by kernel_rfl))⟩
  t0:=Tryz.underlying0
  a0:=Tryz.isAgg0
  z0:=Tryz.sizeOf0
  v0:=Tryz.zeroValue0
  t3:=Tryz.underlying3
  a3:=Tryz.isAgg3
  z3:=Tryz.sizeOf3
  v3:=Tryz.zeroValue3
  t4:=Tryz.underlying4
  a4:=Tryz.isAgg4
  z4:=Tryz.sizeOf4
  v4:=Tryz.zeroValue4
  t22:=Tryz.underlying26
  a22:=Tryz.isAgg26
  z22:=Tryz.sizeOf26
  v22:=Tryz.zeroValue26 }
open Go.RowKit in
set_option maxHeartbeats 2000000 in
theorem Lb7 (x:Int)(w:World):Calls Tryz.prog 199 #[.int .i64 x] w fun e w'=>e=.returned (.bool false) ∧ w'=w:=by
  go_enter Tryz.func199,Tryz.ntmps199
  go_wp2
  go_ret
  exact⟨by simp,rfl⟩
open Go.RowKit in
set_option maxHeartbeats 2000000 in
theorem Gbi (x y:Int)(w:World):Calls Tryz.prog 162 #[.int .i64 x,.int .i64 y] w fun e w'=>e=.returned (.int .i64 (if x<y then -1 else if y<x then 1 else 0)) ∧ w'=w:=by
  rcases Int.lt_trichotomy x y with h|h|h
  · go_enter Tryz.func162,Tryz.ntmps162
    go_wp2_with (go_at_call 199;refine (Lb7 _ _).mono ?_;rintro e w' ⟨rfl,hw⟩;rw[hw])
    go_ret
    exact⟨by simp[h],rfl⟩
  · subst h
    go_enter Tryz.func162,Tryz.ntmps162
    go_wp2_with (go_at_call 199;refine (Lb7 _ _).mono ?_;rintro e w' ⟨rfl,hw⟩;rw[hw])
    go_ret
    exact⟨by simp,rfl⟩
  · have h2:¬ x<y:=by omega
    go_enter Tryz.func162,Tryz.ntmps162
    go_wp2_with (go_at_call 199;refine (Lb7 _ _).mono ?_;rintro e w' ⟨rfl,hw⟩;rw[hw])
    go_ret
    exact⟨by simp[h,h2],rfl⟩
open Go.RowKit in
set_option maxHeartbeats 2000000 in
theorem Hbz (a b:Addr)(ca cb:Nat)(x y:Int×Int)(w:World)(h1:w.cell? a=some (.int .i64 x.1))(h2:w.cell? (a.add 1)=some (.int .i64 x.2))(h3:w.cell? b=some (.int .i64 y.1))(h4:w.cell? (b.add 1)=some (.int .i64 y.2)) :
    Calls Tryz.prog 112 #[.slice (some a) 2 ca,.slice (some b) 2 cb] w fun e w'=>e=.returned (.int .i64 (Ra0 x y)) ∧ w'=w:=by
  obtain⟨x1,x2⟩:=x;obtain⟨y1,y2⟩:=y;replace h2:w.cell? ⟨a.block,a.off+1,none⟩=some (.int .i64 x2):=h2;replace h4:w.cell? ⟨b.block,b.off+1,none⟩=some (.int .i64 y2):=h4;dsimp only at h1 h3
  rcases Int.lt_trichotomy x1 y1 with h|h|h
  · have e0:Ra0 (x1,x2) (y1,y2)=-1:=by simp[Ra0,ltQ,h]
    have hc:=Gbi x1 y1;rw[if_pos h]at hc
    go_enter Tryz.func112,Tryz.ntmps112
    go_wp2
    refine wp_loop_rounds 1 ?_;rw[rounds_succ]
    go_wp2_with (go_at_call 162;refine (hc _).mono ?_;rintro e w' ⟨rfl,hw⟩;rw[hw])
    go_ret
    exact⟨by rw[e0];rfl,rfl⟩
  · subst h
    have hc:=Gbi x1 x1;rw[if_neg (by omega),if_neg (by omega)]at hc
    rcases Int.lt_trichotomy x2 y2 with h|h|h
    · have e0:Ra0 (x1,x2) (x1,y2)=-1:=by simp[Ra0,ltQ,h]
      have hd:=Gbi x2 y2;rw[if_pos h]at hd
      go_enter Tryz.func112,Tryz.ntmps112
      go_wp2
      refine wp_loop_rounds 2 ?_;rw[rounds_succ]
      go_wp2_with (go_at_call 162;refine (hc _).mono ?_;rintro e w' ⟨rfl,hw⟩;rw[hw])
      rw[rounds_succ]
      go_wp2_with (go_at_call 162;refine (hd _).mono ?_;rintro e w' ⟨rfl,hw⟩;rw[hw])
      go_ret
      exact⟨by rw[e0];rfl,rfl⟩
    · subst h
      have e0:Ra0 (x1,x2) (x1,x2)=0:=by simp[Ra0,ltQ]
      have hd:=Gbi x2 x2;rw[if_neg (by omega),if_neg (by omega)]at hd
      go_enter Tryz.func112,Tryz.ntmps112
      go_wp2
      refine wp_loop_rounds 3 ?_;rw[rounds_succ]
      go_wp2_with (go_at_call 162;refine (hc _).mono ?_;rintro e w' ⟨rfl,hw⟩;rw[hw])
      rw[rounds_succ]
      go_wp2_with (go_at_call 162;refine (hd _).mono ?_;rintro e w' ⟨rfl,hw⟩;rw[hw])
      rw[rounds_succ]
      go_wp2
      go_ret
      exact⟨by rw[e0];rfl,rfl⟩
    · have e0:Ra0 (x1,x2) (x1,y2)=1:=by simp[Ra0,ltQ,h];omega
      have hd:=Gbi x2 y2;rw[if_neg (by omega),if_pos h]at hd
      go_enter Tryz.func112,Tryz.ntmps112
      go_wp2
      refine wp_loop_rounds 2 ?_;rw[rounds_succ]
      go_wp2_with (go_at_call 162;refine (hc _).mono ?_;rintro e w' ⟨rfl,hw⟩;rw[hw])
      rw[rounds_succ]
      go_wp2_with (go_at_call 162;refine (hd _).mono ?_;rintro e w' ⟨rfl,hw⟩;rw[hw])
      go_ret
      exact⟨by rw[e0];rfl,rfl⟩
  · have e0:Ra0 (x1,x2) (y1,y2)=1:=by simp[Ra0,ltQ,h];omega
    have hc:=Gbi x1 y1;rw[if_neg (by omega),if_pos h]at hc
    go_enter Tryz.func112,Tryz.ntmps112
    go_wp2
    refine wp_loop_rounds 1 ?_;rw[rounds_succ]
    go_wp2_with (go_at_call 162;refine (hc _).mono ?_;rintro e w' ⟨rfl,hw⟩;rw[hw])
    go_ret
    exact⟨by rw[e0];rfl,rfl⟩
open Go.RowKit in
set_option maxHeartbeats 2000000 in
theorem Bbo:Mar Tryz.prog 111:=by
  intro a b ca cb x y w h1 h2 h3 h4;have hc:=fun W=>Hbz a b ca cb x y W
  go_enter Tryz.func111,Tryz.ntmps111
  go_wp2_with (go_at_call 112;refine (hc _ h1 h2 h3 h4).mono ?_;rintro e w' ⟨rfl,hw⟩;rw[hw])
  go_ret
  exact⟨rfl,0,#[],by rw[Go.Sort.grow_empty];rfl⟩
open Go.RowKit in
set_option maxHeartbeats 2000000 in
theorem Eb4:Sac Tryz.prog 171:=by
  intro p ad n c x y kx ky w h1 h2 h3 h4 h5 h6 h7;have e1:((x.toNat:Nat):Int)=x:=by omega
  have e2:((y.toNat:Nat):Int)=y:=by omega
  generalize x.toNat=X at *;generalize y.toNat=Y at *;subst e1 e2;have h8:(X:Int)<n:=by omega
  have h9:(Y:Int)<n:=by omega
  go_enter Tryz.func171,Tryz.ntmps171
  go_wp2
  go_region
  go_wp2
  go_ret
  have e3:IntKind.i64.wrap (kx-ky)=Go.RowKit.wrap64 (kx-ky):=IntWalk.i64_left _;rw[e3];exact⟨rfl,1,#[],by rw[Go.Sort.grow_empty];rfl⟩
theorem o82:K 82 Mb6:=Wan Tryz.laysF110 rfl Tryz.func111 (by kernel_rfl) rfl Bbo rfl
theorem o93:K 93 Mbv:=Wao Tryz.laysF170 rfl Tryz.func171 (by kernel_rfl) rfl Eb4 rfl
theorem o92:K 92 Mbw:=Vaw (m:=98) Tryz.laysD207 rfl (by kernel_rfl) Tryz.sizeOf45 (by kernel_rfl) rfl
theorem o0:K 0 sg0:=fnK (E:=E0) (tm:=tm0) Tryz.func7 (by kernel_rfl)
theorem o1:K 1 sg1:=fnK (E:=E0) (tm:=tm1) Tryz.func23 (by kernel_rfl)
theorem o2:K 2 sg2:=fnK (E:=E0) (tm:=tm2) Tryz.func35 (by kernel_rfl)
theorem o3:K 3 sg3:=fnK (E:=E0) (tm:=tm3) Tryz.func69 (by kernel_rfl)
theorem o4:K 4 sg4:=fnK (E:=E0) (tm:=tm4) Tryz.func74 (by kernel_rfl)
theorem o5:K 5 sg5:=fnK (E:=E0) (tm:=tm5) Tryz.func127 (by kernel_rfl)
theorem o6:K 6 sg6:=fnK (E:=E0) (tm:=tm6) Tryz.func86 (by kernel_rfl)
theorem o7:K 7 sg7:=fnK (E:=E0) (tm:=tm7) Tryz.func141 (by kernel_rfl)
theorem o8:K 8 sg8:=fnK (E:=E0) (tm:=tm8) Tryz.func128 (by kernel_rfl)
theorem o9:K 9 sg9:=fnK (E:=E0) (tm:=tm9) Tryz.func85 (by kernel_rfl)
theorem o10:K 10 Ob6:=fnK (E:=⟨iZ tiL,sigs,0,0,false,false,[],[(6,[(81,0,0,0),(19,0,0,0),(19,1,2,99)],[6,9,15,24,27,30,54,57,60,75,78,81,1,4,7,19],13,[63]),(3,[(60,0,0,0),(19,0,0,0),(19,1,2,99)],[6,9,15,24,27,54,57,60,1,4,7,19],18,[0])],[],0⟩) (tm:=Lbi) Tryz.func129 (by kernel_rfl)
theorem o11:K 11 Ob5:=fnK (E:=E0) (tm:=Gbf) Tryz.func96 (by kernel_rfl)
theorem o12:K 12 Ob4:=fnK (E:=E0) (tm:=Lbh) Tryz.func89 (by kernel_rfl)
theorem o13:K 13 Ob3:=fnK (E:=E0) (tm:=Lbg) Tryz.func143 (by kernel_rfl)
theorem o14:K 14 Ob2:=fnK (E:=E0) (tm:=Lbf) Tryz.func124 (by kernel_rfl)
theorem o15:K 15 Ob1:=fnK (E:=E0) (tm:=Lbe) Tryz.func144 (by kernel_rfl)
theorem o16:K 16 Ob0:=fnK (E:=E0) (tm:=Lbd) Tryz.func172 (by kernel_rfl)
theorem o17:K 17 Obz:=fnK (E:=E0) (tm:=Lbc) Tryz.func130 (by kernel_rfl)
theorem o18:K 18 Oby:=fnK (E:=⟨iZ tiL,sigs,0,0,false,false,[],[(6,[(63,0,0,0),(16,1,2,99)],[6,9,12,36,39,42,57,60,63,1,4,16],177,[546]),(3,[(42,0,0,0),(16,1,2,99)],[6,9,36,39,42,1,4,16],180,[0])],[],0⟩) (tm:=Lbb) Tryz.func120 (by kernel_rfl)
theorem o19:K 19 Obx:=fnK (E:=E0) (tm:=Lba) Tryz.func97 (by kernel_rfl)
theorem o20:K 20 Obw:=fnK (E:=E0) (tm:=Kb9) Tryz.func153 (by kernel_rfl)
theorem o21:K 21 Obv:=fnK (E:=E0) (tm:=Kb8) Tryz.func185 (by kernel_rfl)
theorem o22:K 22 Obu:=fnK (E:=⟨iZ tiL,sigs,0,0,false,false,[],[(7,[(18,0,0,0),(1,0,3,0),(1,1,0,0),(1,2,0,0),(25,1,2,99)],[177,0,6,9,12,15,18,42,45,1,4,25],193,[1,624]),(4,[(45,0,0,0),(1,0,3,0),(1,1,0,0),(1,2,0,0),(25,1,2,99)],[177,0,6,9,12,42,45,1,4,25],202,[2,3])],[],0⟩) (tm:=Kb7) Tryz.func131 (by kernel_rfl)
theorem o23:K 23 Obt:=fnK (E:=E0) (tm:=Kb6) Tryz.func132 (by kernel_rfl)
theorem o24:K 24 Obs:=fnK (E:=E0) (tm:=Kb5) Tryz.func173 (by kernel_rfl)
theorem o25:K 25 Obr:=fnK (E:=E0) (tm:=Kb4) Tryz.func33 (by kernel_rfl)
theorem o26:K 26 Obq:=fnK (E:=E0) (tm:=Kb3) Tryz.func58 (by kernel_rfl)
theorem o27:K 27 Obp:=fnK (E:=E0) (tm:=Kb2) Tryz.func78 (by kernel_rfl)
theorem o28:K 28 Obo:=fnK (E:=E0) (tm:=Kb1) Tryz.func101 (by kernel_rfl)
theorem o29:K 29 Obn:=fnK (E:=E0) (tm:=Kb0) Tryz.func155 (by kernel_rfl)
theorem o30:K 30 Obm:=fnK (E:=E0) (tm:=Kbz) Tryz.func102 (by kernel_rfl)
theorem o31:K 31 Obl:=fnK (E:=E0) (tm:=Kby) Tryz.func103 (by kernel_rfl)
theorem o32:K 32 Obk:=fnK (E:=E0) (tm:=Kbx) Tryz.func156 (by kernel_rfl)
theorem o33:K 33 Obi:=fnK (E:=E0) (tm:=Kbw) Tryz.func104 (by kernel_rfl)
theorem o34:K 34 Obh:=fnK (E:=E0) (tm:=Kbv) Tryz.func80 (by kernel_rfl)
theorem o35:K 35 Obg:=fnK (E:=E0) (tm:=Kbu) Tryz.func105 (by kernel_rfl)
theorem o36:K 36 Obf:=fnK (E:=E0) (tm:=Kbt) Tryz.func134 (by kernel_rfl)
theorem o37:K 37 Obe:=fnK (E:=E0) (tm:=Kbs) Tryz.func178 (by kernel_rfl)
theorem o38:K 38 Obd:=fnK (E:=E0) (tm:=Kbr) Tryz.func135 (by kernel_rfl)
theorem o39:K 39 Obc:=fnK (E:=E0) (tm:=Kbq) Tryz.func174 (by kernel_rfl)
theorem o40:K 40 Obb:=fnK (E:=E0) (tm:=Kbp) Tryz.func209 (by kernel_rfl)
theorem o41:K 41 Oba:=fnK (E:=E0) (tm:=Kbo) Tryz.func179 (by kernel_rfl)
theorem o42:K 42 Nb9:=fnK (E:=E0) (tm:=Kbn) Tryz.func107 (by kernel_rfl)
theorem o43:K 43 Nb8:=fnK (E:=E0) (tm:=Kbm) Tryz.func136 (by kernel_rfl)
theorem o44:K 44 Nb7:=fnK (E:=E0) (tm:=Kbl) Tryz.func123 (by kernel_rfl)
theorem o45:K 45 Nb6:=fnK (E:=⟨iZ tiL,sigs,0,0,false,false,[],[(6,[(69,0,0,0)],[3,9,15,36,39,42,63,66,69,1],241,[1]),(3,[(42,0,0,0)],[3,9,36,39,42,1],242,[1])],[],0⟩) (tm:=Kbk) Tryz.func76 (by kernel_rfl)
theorem o46:K 46 Nb5:=fnK (E:=E0) (tm:=Kbj) Tryz.func73 (by kernel_rfl)
theorem o47:K 47 Nb4:=fnK (E:=⟨iZ tiL,sigs,0,0,false,false,[],[(5,[(54,0,0,0),(1,0,2,99)],[93,3,12,27,30,33,48,51,54,1,4],1,[18]),(2,[(33,0,0,0),(1,0,2,99)],[93,3,27,30,33,1,4],4,[0])],[],0⟩) (tm:=Kbi) Tryz.func125 (by kernel_rfl)
theorem o48:K 48 Nb3:=fnK (E:=E0) (tm:=Kbh) Tryz.func126 (by kernel_rfl)
theorem o49:K 49 Nb2:=fnK (E:=E0) (tm:=Kbg) Tryz.func60 (by kernel_rfl)
theorem o50:K 50 Nb1:=fnK (E:=E0) (tm:=Kbf) Tryz.func106 (by kernel_rfl)
theorem o51:K 51 Nb0:=fnK (E:=E0) (tm:=Kbe) Tryz.func157 (by kernel_rfl)
theorem o53:K 53 Nbz:=fnK (E:=E0) (tm:=Kbd) Tryz.func133 (by kernel_rfl)
theorem o54:K 54 Nby:=fnK (E:=E0) (tm:=Kbc) Tryz.func175 (by kernel_rfl)
theorem o55:K 55 Nbx:=fnK (E:=E0) (tm:=Kbb) Tryz.func174 (by kernel_rfl)
theorem o56:K 56 Nbw:=fnK (E:=E0) (tm:=Kba) Tryz.func209 (by kernel_rfl)
theorem o57:K 57 Nbv:=fnK (E:=E0) (tm:=Jb9) Tryz.func176 (by kernel_rfl)
theorem o58:K 58 Nbu:=fnK (E:=E0) (tm:=Jb8) Tryz.func177 (by kernel_rfl)
theorem o59:K 59 Nbt:=fnK (E:=E0) (tm:=Jb7) Tryz.func210 (by kernel_rfl)
theorem o60:K 60 Nbs:=fnK (E:=E0) (tm:=Jb6) Tryz.func28 (by kernel_rfl)
theorem o61:K 61 Nbr:=fnK (E:=E0) (tm:=Jb5) Tryz.func36 (by kernel_rfl)
theorem o62:K 62 Nbq:=fnK (E:=E0) (tm:=Jb4) Tryz.func37 (by kernel_rfl)
theorem o63:K 63 Nbp:=fnK (E:=E0) (tm:=Jb3) Tryz.func79 (by kernel_rfl)
theorem o64:K 64 Nbo:=fnK (E:=E0) (tm:=Jb2) Tryz.func30 (by kernel_rfl)
theorem o65:K 65 Nbn:=fnK (E:=E0) (tm:=Jb1) Tryz.func59 (by kernel_rfl)
theorem o66:K 66 Nbm:=fnK (E:=E0) (tm:=Jb0) Tryz.func38 (by kernel_rfl)
theorem o67:K 67 Nbl:=fnK (E:=E0) (tm:=Jbz) Tryz.func81 (by kernel_rfl)
theorem o68:K 68 Nbk:=fnK (E:=E0) (tm:=Jby) Tryz.func137 (by kernel_rfl)
theorem o69:K 69 Nbj:=fnK (E:=E0) (tm:=Jbx) Tryz.func82 (by kernel_rfl)
theorem o70:K 70 Nbi:=fnK (E:=E0) (tm:=Jbw) Tryz.func22 (by kernel_rfl)
theorem o71:K 71 Nbh:=fnK (E:=⟨iZ tiL,sigs,0,0,false,true,[],[(3,[(60,0,0,0),(16,0,0,0),(16,1,2,99)],[3,9,54,57,60,1,16],225,[0,4]),(10,[(24,0,2,99),(144,0,0,0)],[9,18,21,24,138,141,144,1,16],353,[4,694,697,700,702]),(16,[(18,0,2,99),(33,0,2,99),(243,0,0,0)],[18,33,237,240,243,1,16],3,[4,694,696,700,1771,1773,1777])],[],0⟩) (tm:=Jbv) Tryz.func68 (by kernel_rfl)
theorem o72:K 72 Nbg:=fnK (E:=E0) (tm:=Jbu) Tryz.func66 (by kernel_rfl)
theorem o73:K 73 Nbf:=fnK (E:=⟨iZ tiL,sigs,0,0,false,true,[],[],[],0⟩) (tm:=Jbt) Tryz.func118 (by kernel_rfl)
theorem o74:K 74 Nbe:=fnK (E:=E0) (tm:=Jbs) Tryz.func139 (by kernel_rfl)
theorem o75:K 75 Nbd:=fnK (E:=E0) (tm:=Jbr) Tryz.func119 (by kernel_rfl)
theorem o76:K 76 Nbc:=fnK (E:=⟨iZ tiL,sigs,0,0,false,false,[],[(6,[(15,0,2,1),(18,0,2,1),(21,0,2,1),(99,0,3,0),(105,0,0,0)],[6,15,18,21,99,102,105,1],121,[1023,1026,1029,1561,1658]),(3,[(15,0,2,1),(18,0,2,1),(21,0,2,1)],[6,15,18,21,1],338,[0,3,6])],[],0⟩) (tm:=Jbq) Tryz.func61 (by kernel_rfl)
theorem o77:K 77 Nbb:=fnK (E:=⟨iZ tiL,sigs,0,0,false,false,[],[(6,[(9,0,2,99),(18,0,0,0)],[9,12,15,18,27,30,33,1],3,[21]),(3,[(9,0,2,99),(33,0,0,0)],[9,27,30,33,1],6,[0])],[],0⟩) (tm:=Jbp) Tryz.func108 (by kernel_rfl)
theorem o78:K 78 Nba:=fnK (E:=E0) (tm:=Jbo) Tryz.func109 (by kernel_rfl)
theorem o79:K 79 Mb9:=fnK (E:=E0) (tm:=Jbn) Tryz.func158 (by kernel_rfl)
theorem o80:K 80 Mb8:=fnK (E:=E0) (tm:=Jbm) Tryz.func139 (by kernel_rfl)
theorem o81:K 81 Mb7:=fnK (E:=E0) (tm:=Jbl) Tryz.func159 (by kernel_rfl)
theorem o83:K 83 Mb5:=fnK (E:=⟨iZ tiL,sigs,0,0,false,false,[],[(7,[(27,0,2,99),(99,0,0,0)],[3,12,15,21,24,27,45,48,51,93,96,99,1,76],7,[1,478,820,915]),(3,[(15,0,2,99),(51,0,0,0)],[3,12,15,45,48,51,1],157,[1,3])],[],0⟩) (tm:=Jbk) Tryz.func70 (by kernel_rfl)
theorem o84:K 84 Mb4:=fnK (E:=⟨iZ tiL,sigs,0,0,false,false,[(4,1)],[],[],0⟩) (tm:=Jbj) Tryz.func122 (by kernel_rfl)
theorem o85:K 85 Mb3:=fnK (E:=⟨iZ tiL,sigs,0,0,false,true,[],[(3,[(51,0,0,0),(7,0,2,99)],[0,9,48,51,7],81,[0]),(13,[(24,0,2,99),(117,0,0,0)],[0,9,15,18,21,24,96,99,114,117,7,34],6,[253,400,442,447]),(9,[(15,0,2,99),(99,0,0,0)],[0,9,15,18,96,99,7,34],13,[253,255,400]),(25,[(249,0,0,0),(34,0,2,99)],[9,15,18,30,33,243,246,249,7,34],0,[253,475,478,480]),(22,[(15,0,2,99),(30,0,2,99),(34,0,2,99)],[9,15,18,30,7,34],7,[253,399,447,450])],[],0⟩) (tm:=Jbi) Tryz.func169 (by kernel_rfl)
theorem o86:K 86 Mb2:=fnK (E:=⟨iZ tiL,sigs,0,0,false,false,[],[(7,[(15,0,2,99),(18,0,2,99),(96,0,0,0)],[0,15,18,90,93,96],4,[33,36]),(4,[(15,0,2,99),(18,0,2,99)],[0,15,18],9,[0,3]),(15,[(27,0,2,99),(156,0,0,0)],[27,150,153,156],3,[40,42])],[],0⟩) (tm:=Jbh) Tryz.func204 (by kernel_rfl)
theorem o87:K 87 Mb1:=fnK (E:=E0) (tm:=Jbg) Tryz.func139 (by kernel_rfl)
theorem o88:K 88 Mb0:=fnK (E:=E0) (tm:=Jbf) Tryz.func205 (by kernel_rfl)
theorem o89:K 89 Mbz:=fnK (E:=E0) (tm:=Jbe) Tryz.func174 (by kernel_rfl)
theorem o90:K 90 Mby:=fnK (E:=E0) (tm:=Jbd) Tryz.func209 (by kernel_rfl)
theorem o91:K 91 Mbx:=fnK (E:=E0) (tm:=Jbc) Tryz.func206 (by kernel_rfl)
theorem o94:K 94 Mbu:=fnK (E:=E0) (tm:=Jbb) Tryz.func39 (by kernel_rfl)
theorem o95:K 95 Mbt:=fnK (E:=E0) (tm:=Jba) Tryz.func83 (by kernel_rfl)
theorem o96:K 96 Mbs:=fnK (E:=⟨iZ tiL,sigs,0,0,false,false,[],[(6,[(72,0,0,0)],[3,9,21,27,39,42,45,66,69,72,1,4],257,[]),(3,[(45,0,0,0)],[3,9,21,39,42,45,1,4],258,[])],[],0⟩) (tm:=Ib9) Tryz.func84 (by kernel_rfl)
theorem o97:K 97 Mbr:=fnK (E:=E0) (tm:=Ib8) Tryz.func138 (by kernel_rfl)
theorem o98:K 98 Mbq:=fnK (E:=E0) (tm:=Ib7) Tryz.func139 (by kernel_rfl)
theorem o99:K 99 Mbp:=fnK (E:=E0) (tm:=Ib6) Tryz.func140 (by kernel_rfl)
theorem Qbq:K 100 Hbr:=fnK (E:=E0) (tm:=Ab6) Tryz.func29 (by kernel_rfl)
theorem Qbp:K 101 Hbq:=fnK (E:=E0) (tm:=Ab5) Tryz.func72 (by kernel_rfl)
theorem Qbo:K 102 Hbp:=fnK (E:=E0) (tm:=Ab4) Tryz.func40 (by kernel_rfl)
theorem Qbn:K 103 Hbo:=fnK (E:=E0) (tm:=Ab3) Tryz.func21 (by kernel_rfl)
theorem Qbm:K 104 Hbn:=fnK (E:=⟨iZ tiL,sigs,0,0,false,false,[],[(7,[(84,0,0,0)],[3,12,60,63,66,78,81,84,1],0,[]),(4,[(66,0,0,0)],[3,60,63,66,1],1,[])],[],0⟩) (tm:=Ab2) Tryz.func64 (by kernel_rfl)
theorem Qbl:K 105 Hbm:=fnK (E:=E0) (tm:=Ab1) Tryz.func115 (by kernel_rfl)
theorem Qbk:K 106 Hbl:=fnK (E:=E0) (tm:=Ab0) Tryz.func116 (by kernel_rfl)
theorem Qbj:K 107 Hbk:=fnK (E:=E0) (tm:=Abz) Tryz.func152 (by kernel_rfl)
theorem Qbi:K 108 Hbj:=fnK (E:=E0) (tm:=Aby) Tryz.func164 (by kernel_rfl)
theorem Qbh:K 109 Hbi:=fnK (E:=E0) (tm:=Abx) Tryz.func142 (by kernel_rfl)
theorem Qbg:K 110 Hbh:=fnK (E:=E0) (tm:=Abw) Tryz.func165 (by kernel_rfl)
theorem o111:K 111 Hbg:=fnK (E:=E0) (tm:=Abv) Tryz.func201 (by kernel_rfl)
theorem Qbf:K 112 Hbf:=fnK (E:=E0) (tm:=Abu) Tryz.func219 (by kernel_rfl)
theorem Qbe:K 113 Hbe:=fnK (E:=E0) (tm:=Abt) Tryz.func166 (by kernel_rfl)
theorem Qbd:K 114 Hbd:=fnK (E:=E0) (tm:=Abs) Tryz.func202 (by kernel_rfl)
theorem Qbc:K 115 Hbc:=fnK (E:=⟨iZ tiL,sigs,0,0,false,false,[],[(7,[(93,0,0,0),(22,1,2,99)],[3,9,12,15,63,66,90,93,1,22],131,[408]),(4,[(66,0,0,0),(22,1,2,99)],[3,9,12,63,66,1,22],134,[0]),(16,[(27,0,2,99),(183,0,0,0)],[3,21,24,27,177,180,183,1,22],353,[412,415]),(22,[(21,0,3,0),(36,0,2,1),(279,0,0,0)],[21,36,273,276,279,1,22],2,[412,416,1483,1486])],[],0⟩) (tm:=Abr) Tryz.func67 (by kernel_rfl)
theorem Qbb:K 116 Hbb:=fnK (E:=E0) (tm:=Abq) Tryz.func65 (by kernel_rfl)
theorem Qba:K 117 Hba:=fnK (E:=⟨iZ tiL,sigs,0,0,false,false,[],[(6,[(9,0,2,99),(54,0,0,0)],[9,12,27,30,33,48,51,54,1],4,[21]),(3,[(9,0,2,99),(33,0,0,0)],[9,27,30,33,1],7,[])],[],0⟩) (tm:=Abp) Tryz.func117 (by kernel_rfl)
theorem Pb9:K 118 Gb9:=fnK (E:=⟨iZ tiL,sigs,0,0,false,false,[],[(7,[(21,0,2,1),(24,0,3,0),(105,0,3,0),(111,0,0,0)],[9,21,24,27,105,108,111,1],120,[1011,1646]),(4,[(21,0,2,1),(24,0,3,0),(27,0,0,0)],[9,21,24,27,1],335,[3])],[],0⟩) (tm:=Abo) Tryz.func56 (by kernel_rfl)
theorem Pb8:K 119 Gb8:=fnK (E:=⟨iZ tiL,sigs,0,0,false,false,[],[(7,[(24,0,2,99),(33,0,0,0)],[3,6,24,27,30,33,54,57,60,1,22],7,[1,33]),(4,[(24,0,2,99),(60,0,0,0)],[3,6,24,54,57,60,1,22],10,[1])],[],0⟩) (tm:=Abn) Tryz.func98 (by kernel_rfl)
theorem Pb7:K 120 Gb7:=fnK (E:=E0) (tm:=Abm) Tryz.func55 (by kernel_rfl)
theorem Pb6:K 121 Gb6:=fnK (E:=E0) (tm:=Abl) Tryz.func88 (by kernel_rfl)
theorem Pb5:K 122 Gb5:=fnK (E:=E0) (tm:=Abk) Tryz.func99 (by kernel_rfl)
theorem Pb4:K 123 Gb4:=fnK (E:=⟨iZ tiL,sigs,0,0,false,false,[],[(8,[(24,0,3,0),(87,0,0,0)],[3,12,15,24,42,45,48,81,84,87,1],1,[1,361,703]),(4,[(15,0,2,1),(48,0,0,0)],[3,12,15,42,45,48,1],119,[1])],[],0⟩) (tm:=Abj) Tryz.func71 (by kernel_rfl)
theorem Pb3:K 124 Gb3:=fnK (E:=E0) (tm:=Abi) Tryz.func121 (by kernel_rfl)
theorem Pb2:K 125 Gb2:=fnK (E:=⟨iZ tiL,sigs,0,0,false,false,[],[(15,[(21,0,0,0),(126,0,0,0)],[0,9,12,15,18,21,27,30,60,63,66,81,84,87,99,102,105,120,123,126],0,[82,85]),(12,[(21,0,0,0),(105,0,0,0)],[0,9,12,15,18,21,27,60,63,66,81,84,87,99,102,105],3,[82,85]),(9,[(21,0,0,0),(87,0,0,0)],[0,9,12,15,18,21,60,63,66,81,84,87],6,[82,85]),(5,[(66,0,0,0)],[0,9,12,60,63,66],9,[82,85]),(3,[(9,0,2,1),(12,0,2,1)],[0,9,12],26,[0])],[],0⟩) (tm:=Abh) Tryz.func167 (by kernel_rfl)
theorem Pb1:K 126 Gb1:=fnK (E:=⟨iZ tiL,sigs,0,0,false,false,[],[(3,[(9,0,2,1),(36,0,0,0)],[0,9,33,36],2,[]),(13,[(21,0,2,99),(96,0,0,0)],[9,15,18,21,69,72,90,93,96],3,[13,43]),(9,[(15,0,2,99),(72,0,0,0)],[9,15,69,72],9,[13])],[],0⟩) (tm:=Abg) Tryz.func203 (by kernel_rfl)
theorem Pb0:K 127 Gb0:=fnK (E:=⟨iZ tiL,sigs,0,0,false,false,[],[(7,[(15,0,3,0),(18,0,2,99),(84,0,0,0)],[0,15,18,21,78,81,84],4,[1,36]),(4,[(15,0,3,0),(18,0,2,99),(21,0,0,0)],[0,15,18,21],9,[2,3])],[],0⟩) (tm:=Abf) Tryz.func220 (by kernel_rfl)
theorem Pbz:K 128 Gbz:=fnK (E:=⟨iZ tiL,sigs,0,0,false,false,[],[(6,[(24,0,0,0)],[3,15,21,24,30,33,36],0,[40]),(3,[(15,0,2,99),(36,0,0,0)],[3,15,30,33,36],13,[])],[],0⟩) (tm:=Abe) Tryz.func168 (by kernel_rfl)
theorem Pby:K 129 Gby:=fnK (E:=⟨iZ tiL,sigs,0,0,false,false,[],[(7,[(120,0,0,0)],[0,3,15,27,87,90,93,114,117,120,1],0,[]),(4,[(93,0,0,0)],[0,3,15,87,90,93,1],1,[])],[],0⟩) (tm:=Abd) Tryz.func41 (by kernel_rfl)
theorem Pbx:K 130 Gbx:=fnK (E:=E0) (tm:=Abc) Tryz.func87 (by kernel_rfl)
theorem Pbw:K 131 Gbw:=fnK (E:=E0) (tm:=Abb) Tryz.func95 (by kernel_rfl)
theorem Ibk:∀ key s,(key,s)∈sigs → Ta3 Tryz.prog T (iZ tiL) sigs key s:=Taj (fc o0 <| fc o1 <| fc o2 <| fc o3 <| fc o4 <| fc o5 <| fc o6 <| fc o7 <| fc o8 <| fc o9 <| fc o10 <| fc o11 <| fc o12 <| fc o13 <| fc o14 <| fc o15 <| fc o16 <| fc o17 <| fc o18 <| fc o19 <| fc o20 <| fc o21 <| fc o22 <| fc o23 <| fc o24 <| fc o25 <| fc o26 <| fc o27 <| fc o28 <| fc o29 <| fc o30 <| fc o31 <| fc o32 <| fc o33 <| fc o34 <| fc o35 <| fc o36 <| fc o37 <| fc o38 <| fc o39 <| fc o40 <| fc o41 <| fc o42 <| fc o43 <| fc o44 <| fc o45 <| fc o46 <| fc o47 <| fc o48 <| fc o49 <| fc o50 <| fc o51 <| fc o52 <| fc o53 <| fc o54 <| fc o55 <| fc o56 <| fc o57 <| fc o58 <| fc o59 <| fc o60 <| fc o61 <| fc o62 <| fc o63 <| fc o64 <| fc o65 <| fc o66 <| fc o67 <| fc o68 <| fc o69 <| fc o70 <| fc o71 <| fc o72 <| fc o73 <| fc o74 <| fc o75 <| fc o76 <| fc o77 <| fc o78 <| fc o79 <| fc o80 <| fc o81 <| fc o82 <| fc o83 <| fc o84 <| fc o85 <| fc o86 <| fc o87 <| fc o88 <| fc o89 <| fc o90 <| fc o91 <| fc o92 <| fc o93 <| fc o94 <| fc o95 <| fc o96 <| fc o97 <| fc o98 <| fc o99 <| fc Qbq <| fc Qbp <| fc Qbo <| fc Qbn <| fc Qbm <| fc Qbl <| fc Qbk <| fc Qbj <| fc Qbi <| fc Qbh <| fc Qbg <| fc o111 <| fc Qbf <| fc Qbe <| fc Qbd <| fc Qbc <| fc Qbb <| fc Qba <| fc Pb9 <| fc Pb8 <| fc Pb7 <| fc Pb6 <| fc Pb5 <| fc Pb4 <| fc Pb3 <| fc Pb2 <| fc Pb1 <| fc Pb0 <| fc Pbz <| fc Pby <| fc Pbx <| fc Pbw <| fc0)
theorem contract:∀ n,tN Tryz.prog T n 0 sg0:=fun n=>contracts Dbg (by kernel_rfl) Ibk n 0 sg0 (by simp[sigs])
end FnSameOrders
end Go.Proofs.YtpgnlmfmlffjcaaGreat
