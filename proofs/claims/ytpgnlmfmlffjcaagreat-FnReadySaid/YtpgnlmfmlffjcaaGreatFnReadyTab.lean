/- The terms of the functions that FnReady reaches (printed by the author's own program). -/
import Derived.Test.YtpgnlmfmlffjcaaGreatChecked
import Derived.Test.YtpgnlmfmlffjcaaGreatRf10
import Derived.KernelRfl
open Int renaming lt_trichotomy → Ub7
set_option linter.unusedSimpArgs false
set_option linter.unusedVariables false
namespace Go.Proofs.YtpgnlmfmlffjcaaGreat
namespace FnReady
open Go Go.Proofs.YtpgnlmfmlffjcaaGreat.Rf
set_option maxRecDepth 100000

def t3:TI:=⟨false,1,8,[.sc (.int .i64 0)],[],none,(some .i64),false,false,false,false⟩
theorem ti3:oH Tryz.prog 3=some t3:=by kernel_rfl
def t4:TI:=⟨false,1,1,[.sc (.bool false)],[],none,none,true,false,false,false⟩
theorem ti4:oH Tryz.prog 4=some t4:=by kernel_rfl
def t5:TI:=⟨false,1,1,[.sc (.int .u8 0)],[],none,(some .u8),false,false,false,false⟩
theorem ti5:oH Tryz.prog 5=some t5:=by kernel_rfl
def t26:TI:=⟨false,1,24,[.sl 1],[],(some 45),none,false,false,false,false⟩
theorem Obr:oH Tryz.prog 26=some t26:=by kernel_rfl
def t29:TI:=⟨false,1,24,[.sl 1],[],(some 120),none,false,false,false,false⟩
theorem Obq:oH Tryz.prog 29=some t29:=by kernel_rfl
def t31:TI:=⟨true,2,32,[.sc (.int .i64 0),.sl 1],[(0,3),(1,29)],none,none,false,false,false,false⟩
theorem Obp:oH Tryz.prog 31=some t31:=by kernel_rfl
def t40:TI:=⟨false,1,24,[.sl 1],[],(some 5),none,false,false,false,false⟩
theorem Sbf:oH Tryz.prog 40=some t40:=by kernel_rfl
def t45:TI:=⟨false,1,24,[.sl 1],[],(some 3),none,false,false,false,false⟩
theorem Obo:oH Tryz.prog 45=some t45:=by kernel_rfl
def t48:TI:=⟨true,5,40,[.sc (.int .i64 0),.sc (.int .i64 0),.sc (.int .i64 0),.sc (.int .i64 0),.sc (.int .i64 0)],[(0,3),(1,3),(2,3),(3,3),(4,3)],none,none,false,false,false,true⟩
theorem Obn:oH Tryz.prog 48=some t48:=by kernel_rfl
def t50:TI:=⟨true,2,32,[.sc (.int .i64 0),.sl 1],[(0,3),(1,45)],none,none,false,false,false,false⟩
theorem Obm:oH Tryz.prog 50=some t50:=by kernel_rfl
def t52:TI:=⟨true,10,96,[.sc (.int .i64 0),.sc (.int .i64 0),.sc (.int .i64 0),.sc (.int .i64 0),.sc (.int .i64 0),.sc (.int .i64 0),.sc (.int .i64 0),.sc (.int .i64 0),.sc (.int .i64 0),.sl 1],[(0,3),(1,3),(2,3),(3,48),(8,50)],none,none,false,false,false,false⟩
theorem Obl:oH Tryz.prog 52=some t52:=by kernel_rfl
def t95:TI:=⟨false,1,8,[.sc (.int .u64 0)],[],none,(some .u64),false,false,false,false⟩
theorem Sbe:oH Tryz.prog 95=some t95:=by kernel_rfl
def t97:TI:=⟨true,3,40,[.sl 1,.sc (.int .i64 0),.sc (.int .u64 0)],[(0,40),(1,3),(2,95)],none,none,false,false,false,false⟩
theorem Sbd:oH Tryz.prog 97=some t97:=by kernel_rfl
def Ib1:TI:=⟨false,1,24,[.sl 10],[],(some 52),none,false,false,false,false⟩
theorem Dbg:oH Tryz.prog 120=some Ib1:=by kernel_rfl
def Ib0:TI:=⟨false,1,24,[.sl 1],[],(some 4),none,false,false,false,false⟩
theorem Dbf:oH Tryz.prog 204=some Ib0:=by kernel_rfl
def tiL:List (Nat×TI):=[(3,t3),(4,t4),(5,t5),(26,t26),(29,t29),(31,t31),(40,t40),(45,t45),(48,t48),(50,t50),(52,t52),(95,t95),(97,t97),(120,Ib1),(204,Ib0)]
theorem Iau:Aaj Tryz.prog (bW tiL):=Ja0 (l:=tiL) (fc ti3 <| fc ti4 <| fc ti5 <| fc Obr <| fc Obq <| fc Obp <| fc Sbf <| fc Obo <| fc Obn <| fc Obm <| fc Obl <| fc Sbe <| fc Sbd <| fc Dbg <| fc Dbf <| fc0)

def sg0:Sig:=⟨6,[(false,[.fz false]),(false,[.fz false])],[],[(false,[.sc])]⟩
def sg1:Sig:=⟨23,[(false,[.fz false]),(false,[.fz false])],[],[(false,[.sc])]⟩
def sg2:Sig:=⟨24,[(false,[.fz false])],[],[(true,[.sc,.ow 99])]⟩
def sg3:Sig:=⟨69,[(false,[.fz false])],[],[(true,[.sc,.ow 99])]⟩
def sg4:Sig:=⟨74,[(false,[.px 0])],[(false,[(.fz false,.fz),(.sc,.sc),(.sc,.sc)])],[(true,[.sc,.ow 99])]⟩
def sg5:Sig:=⟨127,[(false,[.sc])],[],[(true,[.sc,.ow 99])]⟩
def sg6:Sig:=⟨86,[(false,[.px 0]),(false,[.sc])],[(false,[(.fz false,.fz),(.sc,.sc),(.sc,.sc)])],[(false,[.sc])]⟩
def sg7:Sig:=⟨141,[(false,[.px 0])],[(false,[(.fz false,.fz),(.sc,.sc),(.sc,.sc)])],[(false,[.sc])]⟩
def sg8:Sig:=⟨128,[(false,[.px 0])],[(false,[(.fz false,.fz),(.sc,.sc),(.sc,.sc)])],[(true,[.sc,.sc,.sc,.sc,.sc])]⟩
def sg9:Sig:=⟨85,[(false,[.px 0]),(false,[.sc])],[(false,[(.fz false,.fz),(.sc,.sc),(.sc,.sc)])],[(false,[.sc])]⟩
def Lbg:Sig:=⟨129,[(true,[.sc,.fz false]),(true,[.sc,.sc,.sc,.sc,.sc]),(false,[.sc]),(false,[.sc])],[],[(true,[.sc,.ow 99])]⟩
def Lbf:Sig:=⟨96,[(false,[.sc])],[],[(true,[.sc,.ow 99])]⟩
def Lbe:Sig:=⟨89,[(true,[.sc,.sc,.sc,.sc,.sc]),(true,[.sc,.sc,.sc,.sc,.sc])],[],[(false,[.sc])]⟩
def Lbd:Sig:=⟨143,[(true,[.sc,.sc,.sc,.sc,.sc])],[],[(false,[.fz])]⟩
def Lbc:Sig:=⟨124,[(false,[.fz false]),(false,[.sc])],[],[(false,[.fz])]⟩
def Lbb:Sig:=⟨144,[(false,[.fz false]),(false,[.sc])],[],[(false,[.sc])]⟩
def Lba:Sig:=⟨172,[(false,[.sc]),(false,[.sc])],[],[(false,[.sc])]⟩
def Kb9:Sig:=⟨130,[(true,[.sc,.fz false]),(false,[.sc]),(false,[.sc]),(true,[.sc,.sc,.sc,.sc,.sc,.sc,.sc,.sc,.sc,.fz false])],[],[(true,[.sc,.ow 99])]⟩
def Kb8:Sig:=⟨120,[(true,[.sc,.fz false])],[],[(true,[.sc,.ow 99])]⟩
def Kb7:Sig:=⟨97,[(true,[.sc,.sc,.sc,.sc,.sc,.sc,.sc,.sc,.sc,.fz false])],[],[(true,[.sc,.sc,.sc,.sc,.sc,.sc,.sc,.sc,.sc,.ow 99])]⟩
def Kb6:Sig:=⟨153,[(true,[.sc,.fz false])],[],[(true,[.sc,.ow 99])]⟩
def Kb5:Sig:=⟨185,[(false,[.fz false])],[],[(false,[.ow 99])]⟩
def Kb4:Sig:=⟨131,[(false,[.px 0])],[(false,[(.fz false,.fz),(.sc,.sc),(.sc,.sc)])],[(true,[.sc,.ow 99])]⟩
def Kb3:Sig:=⟨132,[(false,[.px 0]),(false,[.fz false])],[(false,[(.fz false,.fz),(.sc,.sc),(.sc,.sc)])],[(false,[.sc])]⟩
def Kb2:Sig:=⟨173,[(false,[.px 0]),(false,[.sc])],[(false,[(.fz false,.fz),(.sc,.sc),(.sc,.sc)])],[(true,[.sc,.sc,.sc,.sc,.sc,.sc,.sc,.sc,.sc,.ow 99])]⟩
def Kb1:Sig:=⟨20,[(true,[.sc,.fz false])],[],[(false,[.ow 99]),(false,[.sc])]⟩
def Kb0:Sig:=⟨58,[(true,[.sc,.fz false])],[],[(false,[.sc])]⟩
def Kbz:Sig:=⟨78,[(false,[.sc])],[],[(false,[.sc])]⟩
def Kby:Sig:=⟨101,[(false,[.fz false]),(false,[.clo 102 [.px 0]])],[(true,[(.sc,.sc),(.fz false,.fz)])],[(false,[.sc])]⟩
def Kbx:Sig:=⟨155,[(false,[.fz false]),(false,[.clo 102 [.px 0]])],[(true,[(.sc,.sc),(.fz false,.fz)])],[(false,[.sc])]⟩
def Kbw:Sig:=⟨102,[(false,[.fz false]),(false,[.px 0])],[(true,[(.sc,.sc),(.fz false,.fz)])],[(false,[.sc])]⟩
def Kbv:Sig:=⟨103,[(false,[.fz false]),(false,[.clo 104 [.px 0]])],[(true,[(.sc,.sc),(.fz false,.fz)])],[(false,[.sc])]⟩
def Kbu:Sig:=⟨156,[(false,[.fz false]),(false,[.clo 104 [.px 0]])],[(true,[(.sc,.sc),(.fz false,.fz)])],[(false,[.sc])]⟩
def Kbt:Sig:=⟨104,[(true,[.sc,.sc,.sc,.sc,.sc,.sc,.sc,.sc,.sc,.fz false]),(false,[.px 0])],[(true,[(.sc,.sc),(.fz false,.fz)])],[(false,[.sc])]⟩
def Kbs:Sig:=⟨80,[(false,[.sc]),(true,[.sc,.sc,.sc,.sc,.sc,.sc,.sc,.sc,.sc,.fz false])],[],[(false,[.sc])]⟩
def Kbr:Sig:=⟨105,[(false,[.sc]),(false,[.sc]),(false,[.sc])],[],[(false,[.sc])]⟩
def Kbq:Sig:=⟨134,[(true,[.sc,.sc,.sc,.sc,.sc])],[],[(false,[.sc])]⟩
def Kbp:Sig:=⟨178,[(false,[.sc])],[],[(false,[.sc])]⟩
def Kbo:Sig:=⟨135,[(false,[.sc]),(true,[.sc,.fz false])],[],[(false,[.sc])]⟩
def Kbn:Sig:=⟨174,[(false,[.fz false]),(false,[.clo 179 []])],[],[(false,[.sc])]⟩
def Kbm:Sig:=⟨209,[(false,[.fz false]),(false,[.clo 179 []])],[],[(false,[.sc])]⟩
def Kbl:Sig:=⟨179,[(false,[.sc])],[],[(false,[.sc])]⟩
def Kbk:Sig:=⟨107,[(false,[.sc])],[],[(true,[.sc,.ow 99])]⟩
def Kbj:Sig:=⟨136,[(true,[.sc,.fz false]),(true,[.sc,.fz false])],[],[(false,[.sc])]⟩
def Kbi:Sig:=⟨123,[(false,[.fz false]),(false,[.fz false])],[],[(false,[.sc])]⟩
def Kbh:Sig:=⟨66,[(true,[.sc,.fz false])],[],[(false,[.ow 99])]⟩
def Kbg:Sig:=⟨73,[(true,[.sc,.fz false])],[],[(false,[.ow 99])]⟩
def Kbf:Sig:=⟨125,[(true,[.sc,.fz false]),(false,[.clo 126 [.px 0]])],[(false,[(.ow 99,.ow 99)])],[]⟩
def Kbe:Sig:=⟨126,[(false,[.sc]),(false,[.sc]),(true,[.sc,.sc,.sc,.sc,.sc,.sc,.sc,.sc,.sc,.fz false]),(false,[.px 0])],[(false,[(.ow 99,.ow 99)])],[]⟩
def Kbd:Sig:=⟨118,[(false,[.ow 99]),(false,[.clo 119 [.px 0]])],[(true,[(.sc,.sc),(.fz false,.fz)])],[(false,[.ow 99])]⟩
def Kbc:Sig:=⟨139,[(false,[.fz false]),(false,[.clo 119 [.px 0]])],[(true,[(.sc,.sc),(.fz false,.fz)])],[(false,[.sc])]⟩
def Kbb:Sig:=⟨119,[(false,[.fz false]),(false,[.px 0])],[(true,[(.sc,.sc),(.fz false,.fz)])],[(false,[.sc])]⟩
def Kba:Sig:=⟨61,[(true,[.sc,.fz false]),(false,[.fz false])],[],[(false,[.fz])]⟩
def Jb9:Sig:=⟨60,[(true,[.sc,.fz false]),(false,[.sc]),(false,[.sc])],[],[(true,[.sc,.sc,.sc,.sc,.sc,.sc,.sc,.sc,.sc,.ow 99])]⟩
def Jb8:Sig:=⟨106,[(true,[.sc,.sc,.sc,.sc,.sc,.sc,.sc,.sc,.sc,.fz false])],[],[(true,[.sc,.sc,.sc,.sc,.sc,.sc,.sc,.sc,.sc,.ow 99])]⟩
def Jb7:Sig:=⟨157,[(true,[.sc,.fz false])],[],[(true,[.sc,.ow 99])]⟩
def Dbw:Sig:=⟨188,[(false,[.fz false])],[],[(false,[.ow 99])]⟩
def Jb6:Sig:=⟨108,[(true,[.sc,.fz false])],[],[(false,[.ow 99])]⟩
def Jb5:Sig:=⟨109,[(false,[.fz false]),(false,[.fz false])],[],[(false,[.sc])]⟩
def Jb4:Sig:=⟨158,[(false,[.fz false]),(false,[.clo 159 [.px 0]])],[(true,[(.fz false,.fz)])],[(false,[.sc])]⟩
def Jb3:Sig:=⟨139,[(false,[.fz false]),(false,[.clo 159 [.px 0]])],[(true,[(.fz false,.fz)])],[(false,[.sc])]⟩
def Jb2:Sig:=⟨159,[(false,[.fz false]),(false,[.px 0])],[(true,[(.fz false,.fz)])],[(false,[.sc])]⟩
def Jb1:Sig:=⟨110,[(false,[.mu 1]),(false,[.clo 111 []])],[],[]⟩
def Jb0:Sig:=⟨19,[(true,[.sc,.fz false])],[],[(false,[.fz]),(false,[.sc])]⟩
def Jbz:Sig:=⟨64,[(true,[.sc,.fz false])],[],[(false,[.sc])]⟩
def Jby:Sig:=⟨115,[(false,[.sc])],[],[(false,[.sc])]⟩
def Jbx:Sig:=⟨116,[(false,[.sc]),(true,[.sc,.sc,.sc,.sc,.sc,.sc,.sc,.sc,.sc,.fz false])],[],[(false,[.sc])]⟩
def Jbw:Sig:=⟨152,[(false,[.sc]),(false,[.sc]),(false,[.sc])],[],[(false,[.sc])]⟩
def Jbv:Sig:=⟨164,[(true,[.sc,.fz false]),(true,[.sc,.fz false])],[],[(false,[.sc])]⟩
def Jbu:Sig:=⟨142,[(false,[.fz false]),(false,[.fz false])],[],[(false,[.sc])]⟩
def Jbt:Sig:=⟨165,[(true,[.sc,.sc,.sc,.sc,.sc])],[],[(false,[.sc])]⟩
def Jbs:Sig:=⟨201,[(true,[.sc,.sc,.sc,.sc,.sc])],[],[(false,[.sc])]⟩
def Jbr:Sig:=⟨219,[(false,[.sc])],[],[(false,[.sc])]⟩
def Jbq:Sig:=⟨166,[(false,[.sc]),(true,[.sc,.fz false])],[],[(false,[.sc])]⟩
def Jbp:Sig:=⟨202,[(false,[.fz false]),(false,[.sc]),(false,[.sc])],[],[(false,[.sc])]⟩
def Ob1:Sig:=⟨65,[(true,[.sc,.fz false])],[],[(false,[.fz])]⟩
def Ob0:Sig:=⟨117,[(true,[.sc,.fz false])],[],[(false,[.ow 99])]⟩
def Jbo:Sig:=⟨56,[(true,[.sc,.fz false]),(false,[.sc]),(false,[.sc])],[],[(false,[.fz])]⟩
def Obz:Sig:=⟨98,[(true,[.sc,.fz false]),(false,[.sc]),(false,[.sc])],[],[(false,[.ow 99])]⟩
def Oby:Sig:=⟨55,[(true,[.sc,.fz false]),(false,[.sc]),(false,[.sc])],[],[(true,[.sc,.sc,.sc,.sc,.sc,.sc,.sc,.sc,.sc,.ow 99])]⟩
def Jbn:Sig:=⟨88,[(false,[.fz false]),(false,[.fz false])],[],[(false,[.sc])]⟩
def Jbm:Sig:=⟨99,[(false,[.fz false]),(false,[.fz false])],[],[(false,[.fz])]⟩
def Jbl:Sig:=⟨22,[(true,[.sc,.fz false])],[],[(false,[.ow 99]),(false,[.sc])]⟩
def Jbk:Sig:=⟨68,[(true,[.sc,.fz false])],[],[(false,[.ow 99])]⟩
def Jbj:Sig:=⟨79,[(false,[.sc])],[],[(true,[.sc,.ow 99])]⟩
def Jbi:Sig:=⟨82,[(false,[.px 0]),(false,[.sc]),(false,[.sc]),(true,[.sc,.sc,.sc,.sc,.sc,.sc,.sc,.sc,.sc,.fz false])],[(false,[(.sc,.sc),(.ow 99,.ow 99)])],[]⟩
def Jbh:Sig:=⟨70,[(true,[.sc,.fz false])],[],[(false,[.ow 99]),(false,[.ow 99])]⟩
def Jbg:Sig:=⟨122,[(false,[.fz false]),(false,[.fz false])],[],[(false,[.ow 99])]⟩
def Jbf:Sig:=⟨169,[(false,[.fz false])],[],[(false,[.ow 99])]⟩
def Jbe:Sig:=⟨204,[(false,[.fz false]),(false,[.sc])],[],[(false,[.ow 99])]⟩
def Dbv:Sig:=⟨177,[(false,[.fz false]),(false,[.sc])],[],[(false,[.sc])]⟩
def Jbd:Sig:=⟨210,[(false,[.fz false]),(false,[.sc])],[],[(false,[.sc])]⟩
def Jbc:Sig:=⟨139,[(false,[.fz false]),(false,[.clo 205 [.px 0,.px 1]])],[(true,[(.fz true,.fz)]),(true,[(.fz true,.fz)])],[(false,[.sc])]⟩
def Dbu:Sig:=⟨205,[(false,[.fz false]),(false,[.px 0]),(false,[.px 1])],[(true,[(.fz false,.fz)]),(true,[(.fz false,.fz)])],[(false,[.sc])]⟩
def Jbb:Sig:=⟨174,[(false,[.fz false]),(false,[.clo 206 [.px 0,.px 1]])],[(true,[(.fz false,.fz)]),(true,[(.fz false,.fz)])],[(false,[.sc])]⟩
def Jba:Sig:=⟨209,[(false,[.fz false]),(false,[.clo 206 [.px 0,.px 1]])],[(true,[(.fz false,.fz)]),(true,[(.fz false,.fz)])],[(false,[.sc])]⟩
def Ib9:Sig:=⟨206,[(false,[.sc]),(false,[.px 0]),(false,[.px 1])],[(true,[(.fz false,.fz)]),(true,[(.fz false,.fz)])],[(false,[.sc])]⟩
def Ib8:Sig:=⟨207,[(false,[.ow 99]),(false,[.sc]),(false,[.sc])],[],[(false,[.ow 99])]⟩
def Ib7:Sig:=⟨170,[(false,[.mu 1]),(false,[.clo 171 [.px 0]])],[(true,[(.fz false,.fz)])],[]⟩
def Ib6:Sig:=⟨21,[(true,[.sc,.fz false])],[],[(false,[.fz]),(false,[.sc])]⟩
def Tas:Sig:=⟨67,[(true,[.sc,.fz false])],[],[(false,[.fz])]⟩
def Tar:Sig:=⟨71,[(true,[.sc,.fz false])],[],[(false,[.ow 99]),(false,[.fz])]⟩
def Taq:Sig:=⟨121,[(false,[.fz false]),(false,[.fz false])],[],[(false,[.ow 99])]⟩
def Tap:Sig:=⟨167,[(false,[.fz false])],[],[(false,[.fz])]⟩
def Tao:Sig:=⟨203,[(false,[.fz false])],[],[(false,[.ow 99])]⟩
def Tan:Sig:=⟨220,[(false,[.fz false]),(false,[.sc])],[],[(false,[.fz])]⟩
def Tam:Sig:=⟨168,[(false,[.fz false]),(false,[.fz false])],[],[(false,[.ow 99])]⟩
def Tal:Sig:=⟨25,[(true,[.sc,.fz false])],[],[(false,[.ow 99]),(false,[.ow 99]),(false,[.sc])]⟩
def Tak:Sig:=⟨26,[(true,[.sc,.fz false])],[],[(false,[.ow 99]),(false,[.fz]),(false,[.sc])]⟩
def Taj:Sig:=⟨27,[(false,[.fz false]),(false,[.fz false])],[],[(false,[.sc])]⟩
def Tai:Sig:=⟨72,[(false,[.fz false]),(false,[.fz false])],[],[(false,[.sc])]⟩
def Tah:Sig:=⟨28,[(true,[.sc,.fz false])],[],[(false,[.ow 99]),(false,[.sc])]⟩
def Taf:Sig:=⟨13,[(true,[.sc,.fz false]),(false,[.sc]),(false,[.sc])],[],[(false,[.fz]),(false,[.sc])]⟩
def Tae:Sig:=⟨59,[(false,[.sc]),(false,[.sc]),(false,[.sc])],[],[(false,[.sc])]⟩
def Tad:Sig:=⟨29,[(false,[.fz false]),(false,[.fz false])],[],[(false,[.sc])]⟩
def Tac:Sig:=⟨30,[(true,[.sc,.fz false]),(false,[.sc]),(false,[.sc])],[],[(true,[.sc,.sc,.sc,.sc,.sc,.sc,.sc,.sc,.sc,.ow 99]),(false,[.sc])]⟩
def Tab:Sig:=⟨31,[(false,[.fz false])],[],[(true,[.sc,.ow 99]),(false,[.sc]),(false,[.sc])]⟩
def Taa:Sig:=⟨75,[(false,[.px 0])],[(false,[(.fz false,.fz),(.sc,.sc),(.sc,.sc)])],[(false,[.sc]),(false,[.sc])]⟩
def Sa9:Sig:=⟨11,[(true,[.sc,.fz false]),(false,[.sc]),(false,[.sc])],[],[(false,[.fz]),(false,[.sc])]⟩
def Sa8:Sig:=⟨54,[(true,[.sc,.fz false]),(false,[.sc]),(false,[.sc])],[],[(false,[.sc])]⟩
def Sa7:Sig:=⟨95,[(false,[.sc]),(false,[.sc]),(false,[.sc])],[],[(false,[.sc])]⟩
def Sa6:Sig:=⟨32,[(false,[.fz false])],[],[(true,[.sc,.ow 99])]⟩
def Sa5:Sig:=⟨33,[(true,[.sc,.fz false])],[],[(false,[.sc]),(false,[.sc])]⟩
def Sa4:Sig:=⟨76,[(true,[.sc,.fz false])],[],[(false,[.sc])]⟩
def Sa3:Sig:=⟨133,[(true,[.sc,.sc,.sc,.sc,.sc]),(true,[.sc,.sc,.sc,.sc,.sc])],[],[(false,[.sc])]⟩
def Sa2:Sig:=⟨175,[(true,[.sc,.sc,.sc,.sc,.sc])],[],[(false,[.ow 99])]⟩
def Sa1:Sig:=⟨174,[(false,[.fz false]),(false,[.clo 176 [.px 0]])],[(true,[(.sc,.sc),(.sc,.sc),(.sc,.sc),(.sc,.sc),(.sc,.sc)])],[(false,[.sc])]⟩
def Dbz:Sig:=⟨209,[(false,[.fz false]),(false,[.clo 176 [.px 0]])],[(true,[(.sc,.sc),(.sc,.sc),(.sc,.sc),(.sc,.sc),(.sc,.sc)])],[(false,[.sc])]⟩
def Dby:Sig:=⟨176,[(false,[.sc]),(false,[.px 0])],[(true,[(.sc,.sc),(.sc,.sc),(.sc,.sc),(.sc,.sc),(.sc,.sc)])],[(false,[.sc])]⟩
def Dbx:Sig:=⟨34,[(true,[.sc,.fz false])],[],[(false,[.sc]),(false,[.sc])]⟩
def Ob2:Sig:=⟨77,[(true,[.sc,.fz false])],[],[(false,[.sc])]⟩
def sigs:List (Nat×Sig):=[(0,sg0),(1,sg1),(2,sg2),(3,sg3),(4,sg4),(5,sg5),(6,sg6),(7,sg7),(8,sg8),(9,sg9),(10,Lbg),(11,Lbf),(12,Lbe),(13,Lbd),(14,Lbc),(15,Lbb),(16,Lba),(17,Kb9),(18,Kb8),(19,Kb7),(20,Kb6),(21,Kb5),(22,Kb4),(23,Kb3),(24,Kb2),(25,Kb1),(26,Kb0),(27,Kbz),(28,Kby),(29,Kbx),(30,Kbw),(31,Kbv),(32,Kbu),(33,Kbt),(34,Kbs),(35,Kbr),(36,Kbq),(37,Kbp),(38,Kbo),(39,Kbn),(40,Kbm),(41,Kbl),(42,Kbk),(43,Kbj),(44,Kbi),(45,Kbh),(46,Kbg),(47,Kbf),(48,Kbe),(49,Kbd),(50,Kbc),(51,Kbb),(52,Kba),(53,Jb9),(54,Jb8),(55,Jb7),(56,Dbw),(57,Jb6),(58,Jb5),(59,Jb4),(60,Jb3),(61,Jb2),(62,Jb1),(63,Jb0),(64,Jbz),(65,Jby),(66,Jbx),(67,Jbw),(68,Jbv),(69,Jbu),(70,Jbt),(71,Jbs),(72,Jbr),(73,Jbq),(74,Jbp),(75,Ob1),(76,Ob0),(77,Jbo),(78,Obz),(79,Oby),(80,Jbn),(81,Jbm),(82,Jbl),(83,Jbk),(84,Jbj),(85,Jbi),(86,Jbh),(87,Jbg),(88,Jbf),(89,Jbe),(90,Dbv),(91,Jbd),(92,Jbc),(93,Dbu),(94,Jbb),(95,Jba),(96,Ib9),(97,Ib8),(98,Ib7),(99,Ib6),(100,Tas),(101,Tar),(102,Taq),(103,Tap),(104,Tao),(105,Tan),(106,Tam),(107,Tal),(108,Tak),(109,Taj),(110,Tai),(111,Tah),(112,Taf),(113,Tae),(114,Tad),(115,Tac),(116,Tab),(117,Taa),(118,Sa9),(119,Sa8),(120,Sa7),(121,Sa6),(122,Sa5),(123,Sa4),(124,Sa3),(125,Sa2),(126,Sa1),(127,Dbz),(128,Dby),(129,Dbx),(130,Ob2)]
abbrev E0:Env:=⟨bW tiL,sigs,0,0,false,false,[],[]⟩

def tm0:Tm Unit :=
(.call none 1 [.v 0,.v 1] 1 [] <|
(.ite (.v 2)
(.leaf .ret [.c (.bool true)] ())
(.call none 2 [.v 0] 2 [] <|
(.call none 25 [.v 3,.v 4] 2 [] <|
(.lt none (.dep 99) [.v 5] 0 <|
(.call none 63 [.v 3,.v 4] 2 [] <|
(.call none 82 [.v 3,.v 4] 2 [] <|
(.lt none (.dep 99) [.v 9] 0 <|
(.call none 99 [.v 3,.v 4] 2 [] <|
(.call none 107 [.v 3,.v 4] 3 [] <|
(.lt none (.dep 99) [.v 13] 0 <|
(.lt none (.dep 99) [.v 14] 0 <|
(.call none 108 [.v 3,.v 4] 3 [] <|
(.lt none (.dep 99) [.v 16] 0 <|
(.lt none (.eqb true) [.v 6,.v 8] 1 <|
(.call (some (.v 19,false)) 109 [.v 5,.v 7] 1 [] <|
(.lt (some (.v 19,false)) .not [.v 20] 1 <|
(.lt none .pick [.v 19,.c (.bool true),.v 21] 1 <|
(.lt (some (.v 22,false)) .id [.v 10] 1 <|
(.lt (some (.v 22,false)) .id [.v 12] 1 <|
(.lt (some (.v 22,false)) (.eqb true) [.v 23,.v 24] 1 <|
(.lt none .pick [.v 22,.c (.bool true),.v 25] 1 <|
(.call (some (.v 26,false)) 109 [.v 9,.v 11] 1 [] <|
(.lt (some (.v 26,false)) .not [.v 27] 1 <|
(.lt none .pick [.v 26,.c (.bool true),.v 28] 1 <|
(.lt (some (.v 29,false)) .id [.v 15] 1 <|
(.lt (some (.v 29,false)) .id [.v 18] 1 <|
(.lt (some (.v 29,false)) (.eqb true) [.v 30,.v 31] 1 <|
(.lt none .pick [.v 29,.c (.bool true),.v 32] 1 <|
(.call (some (.v 33,false)) 109 [.v 13,.v 16] 1 [] <|
(.lt (some (.v 33,false)) .not [.v 34] 1 <|
(.lt none .pick [.v 33,.c (.bool true),.v 35] 1 <|
(.call (some (.v 36,false)) 109 [.v 14,.v 17] 1 [] <|
(.lt (some (.v 36,false)) .not [.v 37] 1 <|
(.lt none .pick [.v 36,.c (.bool true),.v 38] 1 <|
(.lt (some (.v 39,false)) .id [.v 6] 1 <|
(.lt (some (.v 39,false)) .id [.v 40] 1 <|
(.lt (some (.v 41,true)) .len [.v 9] 1 <|
(.lt (some (.v 41,true)) .len [.v 5] 1 <|
(.lt (some (.v 41,true)) (.bin .neq) [.v 42,.v 43] 1 <|
(.lt (some (.v 39,false)) .pick [.v 41,.v 44,.c (.bool false)] 1 <|
(.lt none .pick [.v 39,.c (.bool true),.v 45] 1 <|
(.ite (.v 46)
(.leaf .ret [.c (.bool false)] ())
(.call none 111 [.v 3,.v 4] 2 [] <|
(.lt none (.dep 99) [.v 47] 0 <|
(.lt none .len [.v 47] 1 <|
(.bind 1
(.loop [.c (.int .i64 0)]
(.lt none (.bin .lss) [.v 50,.v 49] 1 <|
(.ite (.v 51)
(.lt none .inb [.v 47,.v 50] 0 <|
(.lt none (.row 1 0 [false]) [.v 47,.v 50] 1 <|
(.lt none .len [.v 52] 1 <|
(.lt none (.bin .neq) [.v 53,.c (.int .i64 2)] 1 <|
(.ite (.v 54)
(.leaf .ret [.c (.bool false)] ())
(.lt none .inb [.v 52,.c (.int .i64 0)] 0 <|
(.lt none (.row 1 0 [true]) [.v 52,.c (.int .i64 0)] 1 <|
(.lt none .inb [.v 52,.c (.int .i64 1)] 0 <|
(.lt none (.row 1 0 [true]) [.v 52,.c (.int .i64 1)] 1 <|
(.call none 112 [.v 3,.v 4,.v 55,.v 56] 2 [] <|
(.lt none .not [.v 48] 1 <|
(.lt (some (.v 59,false)) .id [.v 58] 1 <|
(.lt (some (.v 59,false)) .not [.v 60] 1 <|
(.lt none .pick [.v 59,.c (.bool true),.v 61] 1 <|
(.call (some (.v 62,false)) 114 [.v 5,.v 52] 1 [] <|
(.lt (some (.v 62,false)) .len [.v 57] 1 <|
(.lt (some (.v 62,false)) (.bin .eql) [.v 64,.c (.int .i64 0)] 1 <|
(.lt (some (.v 62,false)) (.eqb true) [.v 63,.v 65] 1 <|
(.lt none .pick [.v 62,.c (.bool true),.v 66] 1 <|
(.ite (.v 67)
(.leaf .ret [.c (.bool false)] ())
(.lt none .len [.v 57] 1 <|
(.bind 3
(.loop [.c (.int .i64 0)]
(.lt none (.bin .lss) [.v 69,.v 68] 1 <|
(.ite (.v 70)
(.lt none .inb [.v 57,.v 69] 0 <|
(.lt none (.row 1 0 [false]) [.v 57,.v 69] 1 <|
(.lt none .inb [.v 71,.c (.int .i64 0)] 0 <|
(.lt none (.row 1 0 [true]) [.v 71,.c (.int .i64 0)] 1 <|
(.lt none .inb [.v 71,.c (.int .i64 1)] 0 <|
(.lt none (.row 1 0 [true]) [.v 71,.c (.int .i64 1)] 1 <|
(.call none 115 [.v 3,.v 4,.v 72,.v 73] 11 [] <|
(.lt none (.dep 99) [.v 83] 0 <|
(.lt none .not [.v 84] 1 <|
(.lt (some (.v 85,false)) .id [.v 76] 1 <|
(.lt (some (.v 85,false)) (.bin .eql) [.v 86,.c (.int .i64 3)] 1 <|
(.lt none .pick [.v 85,.c (.bool true),.v 87] 1 <|
(.ite (.v 88)
(.leaf .ret [.c (.bool false)] ())
(.lt none (.bin .add) [.v 69,.c (.int .i64 1)] 1 <|
(.leaf .cont [.v 89] ())))))))))))))))
(.leaf (.yield 3) [] ())))) <|
(.lt none (.bin .add) [.v 50,.c (.int .i64 1)] 1 <|
(.leaf .cont [.v 69] ()))))))))))))))))))))))))
(.leaf (.yield 1) [] ())))) <|
(.call none 116 [.v 1] 4 [] <|
(.call none 112 [.v 50,.v 51,.v 52,.v 53] 2 [] <|
(.call none 118 [.v 50,.v 51,.v 52,.v 53] 2 [] <|
(.call none 121 [.v 1] 2 [] <|
(.call none 122 [.v 58,.v 59] 2 [] <|
(.call none 129 [.v 58,.v 59] 2 [] <|
(.lt none (.eqb false) [.v 55,.v 57] 1 <|
(.call (some (.v 64,true)) 109 [.v 54,.v 56] 1 [] <|
(.lt none .pick [.v 64,.v 65,.c (.bool false)] 1 <|
(.lt (some (.v 66,true)) .id [.v 61] 1 <|
(.lt (some (.v 66,true)) .id [.v 63] 1 <|
(.lt (some (.v 66,true)) (.eqb false) [.v 67,.v 68] 1 <|
(.lt none .pick [.v 66,.v 69,.c (.bool false)] 1 <|
(.lt (some (.v 70,true)) .id [.v 60] 1 <|
(.lt (some (.v 70,true)) .id [.v 62] 1 <|
(.lt (some (.v 70,true)) (.eqb false) [.v 71,.v 72] 1 <|
(.lt none .pick [.v 70,.v 73,.c (.bool false)] 1 <|
(.leaf .ret [.v 74] ())))))))))))))))))))))))))))))))))))))))))))))))))))))))))))))))))
def tm1:Tm Unit :=
(.lt none .len [.v 0] 1 <|
(.lt none (.bin .gtr) [.v 2,.c (.int .i64 1048576)] 1 <|
(.lt (some (.v 3,false)) .len [.v 1] 1 <|
(.lt (some (.v 3,false)) .len [.v 0] 1 <|
(.lt (some (.v 3,false)) (.bin .sub) [.c (.int .i64 1048576),.v 5] 1 <|
(.lt (some (.v 3,false)) (.bin .gtr) [.v 4,.v 6] 1 <|
(.lt none .pick [.v 3,.c (.bool true),.v 7] 1 <|
(.leaf .ret [.v 8] ()))))))))
def tm2:Tm Unit :=
(.call none 3 [.v 0] 2 [] <|
(.leaf .ret [.v 1,.v 2] ()))
def tm3:Tm Unit :=
(.call none 4 [.v 0,.c (.int .i64 0),.c (.int .u64 0)] 5 [] <|
(.leaf .ret [.v 1,.v 2] ()))
def tm4:Tm Unit :=
(.call none 5 [.c (.int .i64 3)] 2 [] <|
(.call none 6 [.c (.int .i64 9),.v 0,.v 1,.v 2] 4 [] <|
(.bind 1
(.loop [.v 5,.v 6,.v 7,.v 8,.v 3,.v 4]
(.lt none (.bin .gtr) [.v 9,.c (.int .i64 0)] 1 <|
(.ite (.v 15)
(.bind 2
(.call none 6 [.c (.int .i64 3),.v 10,.v 11,.v 12] 4 [] <|
(.lt none .inb [.v 14,.v 16] 0 <|
(.lt none (.row 1 0 [false]) [.v 14,.v 16] 1 <|
(.lt none .len [.v 20] 1 <|
(.lt none (.bin .add) [.v 21,.c (.int .i64 1)] 1 <|
(.lt none (.bin .gtr) [.v 22,.c (.int .i64 4)] 1 <|
(.ite (.v 23)
(.leaf (.yield 2) [.v 17,.v 18,.v 19,.v 13,.v 14] ())
(.call none 8 [.v 17,.v 18,.v 19] 8 [] <|
(.call none 10 [.v 13,.v 14,.v 24,.v 25,.v 26,.v 27,.v 28,.v 16,.v 22] 2 [] <|
(.lt none (.dep 99) [.v 33] 0 <|
(.bind 0
(.call none 9 [.c (.int .i64 3),.v 29,.v 30,.v 31] 4 [] <|
(.ite (.v 34)
(.call none 6 [.c (.int .i64 3),.v 35,.v 36,.v 37] 4 [] <|
(.call none 6 [.c (.int .i64 4),.v 39,.v 40,.v 41] 4 [] <|
(.lt none .inb [.v 33,.v 38] 0 <|
(.lt none (.set 1 0 1) [.v 33,.v 38,.v 42] 1 <|
(.leaf (.yield 0) [.v 43,.v 44,.v 45,.v 46] ())))))
(.leaf (.yield 0) [.v 35,.v 36,.v 37,.v 33] ()))) <|
(.bind 0
(.call none 9 [.c (.int .i64 5),.v 34,.v 35,.v 36] 4 [] <|
(.ite (.v 38)
(.call none 6 [.c (.int .i64 2),.v 39,.v 40,.v 41] 4 [] <|
(.lt none (.bin .add) [.c (.int .i64 1),.v 42] 1 <|
(.leaf (.yield 0) [.v 46,.v 43,.v 44,.v 45] ())))
(.leaf (.yield 0) [.c (.int .i64 3),.v 39,.v 40,.v 41] ()))) <|
(.call none 17 [.v 13,.v 14,.v 16,.v 22,.c (.int .i64 0),.c (.int .i64 0),.v 38,.v 24,.v 25,.v 26,.v 27,.v 28,.v 32,.v 37] 2 [] <|
(.lt none (.dep 99) [.v 43] 0 <|
(.leaf (.yield 2) [.v 39,.v 40,.v 41,.v 42,.v 43] ()))))))))))))))) <|
(.lt none (.bin .sub) [.v 9,.c (.int .i64 1)] 1 <|
(.leaf .cont [.v 21,.v 16,.v 17,.v 18,.v 19,.v 20] ())))
(.leaf (.yield 1) [.v 10,.v 11,.v 12,.v 13,.v 14] ())))) <|
(.call none 9 [.c (.int .i64 20),.v 9,.v 10,.v 11] 4 [] <|
(.ite (.v 14)
(.call none 22 [.v 15,.v 16,.v 17] 5 [] <|
(.leaf .ret [.v 18,.v 19,.v 20,.v 21,.v 22] ()))
(.leaf .ret [.v 12,.v 13,.v 15,.v 16,.v 17] ()))))))
def tm5:Tm Unit :=
(.lt none (.make 24 [(.rows 10 [])]) [.v 0] 1 <|
(.leaf .ret [.v 0,.v 1] ()))
def tm6:Tm Unit :=
(.lt none (.bin .leq) [.v 0,.c (.int .i64 1)] 1 <|
(.ite (.v 4)
(.leaf .ret [.c (.int .i64 0),.v 1,.v 2,.v 3] ())
(.call none 7 [.v 1,.v 2,.v 3] 4 [] <|
(.bind 0
(.lt none (.bin .gtr) [.v 0,.c (.int .i64 200)] 1 <|
(.ite (.v 9)
(.lt none (.bin .mul) [.v 5,.c (.int .i64 256)] 1 <|
(.call none 7 [.v 6,.v 7,.v 8] 4 [] <|
(.lt none (.bin .add) [.v 10,.v 11] 1 <|
(.leaf (.yield 0) [.v 15,.v 12,.v 13,.v 14] ()))))
(.leaf (.yield 0) [.v 5,.v 6,.v 7,.v 8] ()))) <|
(.lt none (.bin .rem) [.v 9,.v 0] 1 <|
(.leaf .ret [.v 13,.v 10,.v 11,.v 12] ()))))))
def tm7:Tm Unit :=
(.bind 0
(.lt none .len [.v 0] 1 <|
(.lt none (.bin .lss) [.v 1,.v 3] 1 <|
(.ite (.v 4)
(.lt none .inb [.v 0,.v 1] 0 <|
(.lt none (.row 1 0 [true]) [.v 0,.v 1] 1 <|
(.lt none (.conv .i64) [.v 5] 1 <|
(.leaf (.yield 0) [.v 6] ()))))
(.leaf (.yield 0) [.c (.int .i64 0)] ())))) <|
(.lt none (.bin .add) [.v 1,.c (.int .i64 1)] 1 <|
(.lt none (.bin .mul) [.v 2,.c (.int .u64 6364136223846793005)] 1 <|
(.lt none (.conv .u64) [.v 3] 1 <|
(.lt none (.bin .add) [.v 5,.v 6] 1 <|
(.lt none (.bin .add) [.v 7,.c (.int .u64 1442695040888963407)] 1 <|
(.lt none .len [.v 0] 1 <|
(.lt none (.bin .leq) [.v 4,.v 9] 1 <|
(.ite (.v 10)
(.leaf .ret [.v 3,.v 0,.v 4,.v 8] ())
(.lt none (.bin .shr) [.v 8,.c (.int .u64 40)] 1 <|
(.lt none (.bin .and) [.v 11,.c (.int .u64 255)] 1 <|
(.lt none (.conv .i64) [.v 12] 1 <|
(.leaf .ret [.v 13,.v 0,.v 4,.v 8] ())))))))))))))
def tm8:Tm Unit :=
(.call none 6 [.c (.int .i64 9),.v 0,.v 1,.v 2] 4 [] <|
(.lt none (.bin .add) [.c (.int .i64 1),.v 3] 1 <|
(.call none 6 [.c (.int .i64 4),.v 4,.v 5,.v 6] 4 [] <|
(.call none 6 [.c (.int .i64 30),.v 9,.v 10,.v 11] 4 [] <|
(.lt none (.bin .add) [.c (.int .i64 1),.v 12] 1 <|
(.lt none (.bin .add) [.v 8,.c (.int .i64 1)] 1 <|
(.call none 6 [.c (.int .i64 3),.v 13,.v 14,.v 15] 4 [] <|
(.lt none (.bin .add) [.v 17,.v 18] 1 <|
(.lt none (.bin .rem) [.v 22,.c (.int .i64 4)] 1 <|
(.call none 9 [.c (.int .i64 4),.v 19,.v 20,.v 21] 4 [] <|
(.ite (.v 24)
(.leaf .ret [.c (.int .i64 2),.v 7,.v 8,.c (.int .i64 0),.c (.int .i64 0),.v 25,.v 26,.v 27] ())
(.leaf .ret [.c (.int .i64 1),.v 7,.v 8,.v 23,.v 16,.v 25,.v 26,.v 27] ()))))))))))))
def tm9:Tm Unit :=
(.call none 6 [.v 0,.v 1,.v 2,.v 3] 4 [] <|
(.lt none (.bin .eql) [.v 4,.c (.int .i64 0)] 1 <|
(.leaf .ret [.v 8,.v 5,.v 6,.v 7] ())))
def Za8:Tm Unit :=
(.call none 11 [.v 0] 2 [] <|
(.lt none .len [.v 1] 1 <|
(.bind 1
(.loop [.c (.int .i64 0),.v 9,.v 10]
(.lt none (.bin .lss) [.v 12,.v 11] 1 <|
(.ite (.v 15)
(.lt none .inb [.v 1,.v 12] 0 <|
(.lt none (.row 1 0 [false]) [.v 1,.v 12] 1 <|
(.lt none .len [.v 16] 1 <|
(.bind 3
(.loop [.c (.int .i64 0),.v 13,.v 14]
(.lt none (.bin .lss) [.v 18,.v 17] 1 <|
(.ite (.v 21)
(.bind 4
(.lt none .inb [.v 16,.v 18] 0 <|
(.lt none (.row 10 0 [true,true,true,true,true,true,true,true,true,false]) [.v 16,.v 18] 10 <|
(.lt none (.bin .eql) [.v 24,.c (.int .i64 0)] 1 <|
(.call (some (.v 32,false)) 12 [.v 2,.v 3,.v 4,.v 5,.v 6,.v 25,.v 26,.v 27,.v 28,.v 29] 1 [] <|
(.lt (some (.v 32,false)) .not [.v 33] 1 <|
(.lt none .pick [.v 32,.c (.bool true),.v 34] 1 <|
(.lt (some (.v 35,false)) .id [.v 12] 1 <|
(.lt (some (.v 35,false)) .id [.v 7] 1 <|
(.lt (some (.v 35,false)) (.bin .eql) [.v 36,.v 37] 1 <|
(.lt (some (.v 35,false)) .id [.v 38] 1 <|
(.lt (some (.v 39,true)) .id [.v 18] 1 <|
(.lt (some (.v 39,true)) (.bin .add) [.v 40,.c (.int .i64 1)] 1 <|
(.lt (some (.v 39,true)) .id [.v 8] 1 <|
(.lt (some (.v 39,true)) (.bin .eql) [.v 41,.v 42] 1 <|
(.lt (some (.v 35,false)) .pick [.v 39,.v 43,.c (.bool false)] 1 <|
(.lt none .pick [.v 35,.c (.bool true),.v 44] 1 <|
(.ite (.v 45)
(.leaf (.yield 4) [.c .undef,.c .undef,.c .undef,.c .undef,.c .undef,.c .undef,.c .undef,.c .undef,.c .undef,.c .undef,.c .undef,.v 19,.v 20] ())
(.lt none (.bin .add) [.v 18,.c (.int .i64 1)] 1 <|
(.lt none .inb [.v 20,.v 12] 0 <|
(.lt none (.set 1 0 1) [.v 20,.v 12,.v 46] 1 <|
(.call none 16 [.v 19,.v 30] 1 [] <|
(.leaf (.yield 4) [.c .undef,.c .undef,.c .undef,.c .undef,.c .undef,.c .undef,.c .undef,.c .undef,.c .undef,.c .undef,.c .undef,.v 48,.v 47] ())))))))))))))))))))))) <|
(.lt none (.bin .add) [.v 18,.c (.int .i64 1)] 1 <|
(.leaf .cont [.v 35,.v 33,.v 34] ())))
(.leaf (.yield 3) [.v 19,.v 20] ())))) <|
(.lt none (.bin .add) [.v 12,.c (.int .i64 1)] 1 <|
(.leaf .cont [.v 20,.v 18,.v 19] ()))))))
(.leaf (.yield 1) [.v 13,.v 14] ())))) <|
(.lt none (.bin .add) [.v 12,.c (.int .i64 1)] 1 <|
(.leaf .ret [.v 14,.v 13] ())))))
def Vay:Tm Unit :=
(.lt none (.make 8 [(.int .i64 0)]) [.v 0] 1 <|
(.leaf .ret [.c (.int .i64 0),.v 1] ()))
def Za7:Tm Unit :=
(.call none 13 [.v 0,.v 1,.v 2,.v 3,.v 4] 1 [] <|
(.lt none .len [.v 10] 1 <|
(.bind 1
(.loop [.c (.int .i64 0)]
(.lt none (.bin .lss) [.v 12,.v 11] 1 <|
(.ite (.v 13)
(.lt none .inb [.v 10,.v 12] 0 <|
(.lt none (.row 1 0 [true]) [.v 10,.v 12] 1 <|
(.call none 13 [.v 5,.v 6,.v 7,.v 8,.v 9] 1 [] <|
(.call none 15 [.v 15,.v 14] 1 [] <|
(.ite (.v 16)
(.leaf .ret [.c (.bool true)] ())
(.lt none (.bin .add) [.v 12,.c (.int .i64 1)] 1 <|
(.leaf .cont [.v 17] ())))))))
(.leaf (.yield 1) [] ())))) <|
(.leaf .ret [.c (.bool false)] ()))))
def Za6:Tm Unit :=
(.lt none (.bin .eql) [.v 0,.c (.int .i64 1)] 1 <|
(.ite (.v 5)
(.lt none (.mk 1 1) [.v 2] 1 <|
(.call none 14 [.v 6,.v 3] 1 [] <|
(.leaf .ret [.v 7] ())))
(.lt none (.bin .eql) [.v 0,.c (.int .i64 2)] 1 <|
(.ite (.v 6)
(.lt none (.mk 1 1) [.v 2] 1 <|
(.leaf .ret [.v 7] ()))
(.leaf .ret [.c (.rows 1 [])] ())))))
def Za5:Tm Unit :=
(.bind 1
(.loop [.c (.int .i64 0)]
(.lt none .len [.v 0] 1 <|
(.lt none (.bin .lss) [.v 2,.v 3] 1 <|
(.lt (some (.v 4,true)) .id [.v 2] 1 <|
(.lt (some (.v 4,true)) .inb [.v 0,.v 5] 0 <|
(.lt (some (.v 4,true)) (.row 1 0 [true]) [.v 0,.v 5] 1 <|
(.lt (some (.v 4,true)) .id [.v 1] 1 <|
(.lt (some (.v 4,true)) (.bin .lss) [.v 6,.v 7] 1 <|
(.lt none .pick [.v 4,.v 8,.c (.bool false)] 1 <|
(.ite (.v 9)
(.lt none (.bin .add) [.v 2,.c (.int .i64 1)] 1 <|
(.leaf .cont [.v 10] ()))
(.leaf (.yield 1) [.v 2] ()))))))))))) <|
(.lt none .len [.v 0] 1 <|
(.lt none (.bin .lss) [.v 2,.v 3] 1 <|
(.lt (some (.v 4,true)) .id [.v 2] 1 <|
(.lt (some (.v 4,true)) .inb [.v 0,.v 5] 0 <|
(.lt (some (.v 4,true)) (.row 1 0 [true]) [.v 0,.v 5] 1 <|
(.lt (some (.v 4,true)) .id [.v 1] 1 <|
(.lt (some (.v 4,true)) (.bin .eql) [.v 6,.v 7] 1 <|
(.lt none .pick [.v 4,.v 8,.c (.bool false)] 1 <|
(.ite (.v 9)
(.leaf .ret [.v 0] ())
(.lt none (.mk 1 0) [] 1 <|
(.lt none (.sub 1 false) [.v 0,.c (.int .i64 0),.v 2] 1 <|
(.lt none (.app 1 8 true) [.v 10,.v 11] 1 <|
(.lt none (.mk 1 1) [.v 1] 1 <|
(.lt none (.app 1 8 true) [.v 12,.v 13] 1 <|
(.lt none .len [.v 0] 1 <|
(.lt none (.sub 1 false) [.v 0,.v 2,.v 15] 1 <|
(.lt none (.app 1 8 true) [.v 14,.v 16] 1 <|
(.leaf .ret [.v 17] ())))))))))))))))))))
def Za4:Tm Unit :=
(.lt none .len [.v 0] 1 <|
(.bind 1
(.loop [.c (.int .i64 0)]
(.lt none (.bin .lss) [.v 3,.v 2] 1 <|
(.ite (.v 4)
(.lt none .inb [.v 0,.v 3] 0 <|
(.lt none (.row 1 0 [true]) [.v 0,.v 3] 1 <|
(.lt none (.bin .eql) [.v 5,.v 1] 1 <|
(.ite (.v 6)
(.leaf .ret [.c (.bool true)] ())
(.lt none (.bin .add) [.v 3,.c (.int .i64 1)] 1 <|
(.leaf .cont [.v 7] ()))))))
(.leaf (.yield 1) [] ())))) <|
(.leaf .ret [.c (.bool false)] ())))
def Za3:Tm Unit :=
(.lt none (.bin .gtr) [.v 0,.v 1] 1 <|
(.ite (.v 2)
(.leaf .ret [.v 0] ())
(.leaf .ret [.v 1] ())))
def Za2:Tm Unit :=
(.call none 18 [.v 0,.v 1] 2 [] <|
(.bind 1
(.loop [.v 15]
(.lt none .inb [.v 16,.v 2] 0 <|
(.lt none (.row 1 0 [false]) [.v 16,.v 2] 1 <|
(.lt none .len [.v 17] 1 <|
(.lt none (.bin .lss) [.v 18,.v 3] 1 <|
(.ite (.v 19)
(.lt none .inb [.v 16,.v 2] 0 <|
(.lt none (.row 1 0 [false]) [.v 16,.v 2] 1 <|
(.call none 11 [.v 0] 2 [] <|
(.lt none (.mk 10 1) [.c (.int .i64 0),.c (.int .i64 0),.c (.int .i64 0),.c (.int .i64 0),.c (.int .i64 0),.c (.int .i64 0),.c (.int .i64 0),.c (.int .i64 0),.v 21,.v 22] 1 <|
(.lt none (.set 1 0 1) [.v 16,.v 2,.c .hole] 1 <|
(.lt none (.app 10 96 false) [.v 20,.v 23] 1 <|
(.lt none .inb [.v 24,.v 2] 0 <|
(.lt none (.set 1 0 1) [.v 24,.v 2,.v 25] 1 <|
(.leaf .cont [.v 26] ())))))))))
(.leaf (.yield 1) [.v 16] ()))))))) <|
(.lt none .inb [.v 16,.v 2] 0 <|
(.lt none (.row 1 0 [false]) [.v 16,.v 2] 1 <|
(.lt none (.bin .sub) [.v 3,.c (.int .i64 1)] 1 <|
(.call none 19 [.v 4,.v 5,.v 6,.v 7,.v 8,.v 9,.v 10,.v 11,.v 12,.v 13] 10 [] <|
(.lt none .inb [.v 17,.v 18] 0 <|
(.lt none (.set 10 0 10) [.v 17,.v 18,.v 19,.v 20,.v 21,.v 22,.v 23,.v 24,.v 25,.v 26,.v 27,.v 28] 1 <|
(.lt none (.set 1 0 1) [.v 16,.v 2,.v 29] 1 <|
(.leaf .ret [.v 14,.v 30] ()))))))))))
def Za1:Tm Unit :=
(.call none 5 [.v 0] 2 [] <|
(.lt none .len [.v 1] 1 <|
(.bind 1
(.loop [.c (.int .i64 0),.v 3]
(.lt none (.bin .lss) [.v 5,.v 4] 1 <|
(.ite (.v 7)
(.lt none .inb [.v 1,.v 5] 0 <|
(.lt none (.row 1 0 [false]) [.v 1,.v 5] 1 <|
(.lt none .len [.v 8] 1 <|
(.bind 3
(.loop [.c (.int .i64 0),.v 6]
(.lt none (.bin .lss) [.v 10,.v 9] 1 <|
(.ite (.v 12)
(.lt none .inb [.v 8,.v 10] 0 <|
(.lt none (.row 10 0 [true,true,true,true,true,true,true,true,true,false]) [.v 8,.v 10] 10 <|
(.lt none .inb [.v 11,.v 5] 0 <|
(.lt none (.row 1 0 [false]) [.v 11,.v 5] 1 <|
(.call none 19 [.v 13,.v 14,.v 15,.v 16,.v 17,.v 18,.v 19,.v 20,.v 21,.v 22] 10 [] <|
(.lt none (.mk 10 1) [.v 24,.v 25,.v 26,.v 27,.v 28,.v 29,.v 30,.v 31,.v 32,.v 33] 1 <|
(.lt none (.set 1 0 1) [.v 11,.v 5,.c .hole] 1 <|
(.lt none (.app 10 96 false) [.v 23,.v 34] 1 <|
(.lt none .inb [.v 35,.v 5] 0 <|
(.lt none (.set 1 0 1) [.v 35,.v 5,.v 36] 1 <|
(.lt none (.bin .add) [.v 10,.c (.int .i64 1)] 1 <|
(.leaf .cont [.v 38,.v 37] ()))))))))))))
(.leaf (.yield 3) [.v 11] ())))) <|
(.lt none (.bin .add) [.v 5,.c (.int .i64 1)] 1 <|
(.leaf .cont [.v 11,.v 10] ()))))))
(.leaf (.yield 1) [.v 6] ())))) <|
(.leaf .ret [.v 2,.v 5] ()))))
def Za0:Tm Unit :=
(.call none 20 [.v 8,.v 9] 2 [] <|
(.leaf .ret [.v 0,.v 1,.v 2,.v 3,.v 4,.v 5,.v 6,.v 7,.v 10,.v 11] ()))
def Zaz:Tm Unit :=
(.call none 21 [.v 1] 1 [] <|
(.leaf .ret [.v 0,.v 2] ()))
def Zay:Tm Unit :=
(.lt none (.mk 1 0) [] 1 <|
(.lt none (.app 1 8 true) [.v 1,.v 0] 1 <|
(.leaf .ret [.v 2] ())))
def Zax:Tm Unit :=
(.lt none (.mk 1 4) [.c (.int .i64 3),.c (.int .i64 3),.c (.int .i64 3),.c (.int .i64 5)] 1 <|
(.call none 23 [.v 3,.v 0,.v 1,.v 2] 4 [] <|
(.call none 5 [.v 4] 2 [] <|
(.lt none .len [.v 9] 1 <|
(.bind 1
(.loop [.c (.int .i64 0),.v 5,.v 6,.v 7,.v 9]
(.lt none (.bin .lss) [.v 11,.v 10] 1 <|
(.ite (.v 16)
(.call none 6 [.c (.int .i64 4),.v 12,.v 13,.v 14] 4 [] <|
(.bind 3
(.loop [.v 17,.v 18,.v 19,.v 20,.v 15]
(.lt none (.bin .gtr) [.v 21,.c (.int .i64 0)] 1 <|
(.ite (.v 26)
(.lt none .inb [.v 25,.v 11] 0 <|
(.lt none (.row 1 0 [false]) [.v 25,.v 11] 1 <|
(.call none 24 [.v 4,.v 22,.v 23,.v 24] 13 [] <|
(.lt none (.mk 10 1) [.v 28,.v 29,.v 30,.v 31,.v 32,.v 33,.v 34,.v 35,.v 36,.v 37] 1 <|
(.lt none (.set 1 0 1) [.v 25,.v 11,.c .hole] 1 <|
(.lt none (.app 10 96 false) [.v 27,.v 41] 1 <|
(.lt none .inb [.v 42,.v 11] 0 <|
(.lt none (.set 1 0 1) [.v 42,.v 11,.v 43] 1 <|
(.lt none (.bin .sub) [.v 21,.c (.int .i64 1)] 1 <|
(.leaf .cont [.v 45,.v 38,.v 39,.v 40,.v 44] ()))))))))))
(.leaf (.yield 3) [.v 22,.v 23,.v 24,.v 25] ())))) <|
(.lt none (.bin .add) [.v 11,.c (.int .i64 1)] 1 <|
(.leaf .cont [.v 25,.v 21,.v 22,.v 23,.v 24] ()))))
(.leaf (.yield 1) [.v 12,.v 13,.v 14,.v 15] ())))) <|
(.bind 0
(.call none 6 [.c (.int .i64 40),.v 11,.v 12,.v 13] 4 [] <|
(.lt none (.bin .eql) [.v 15,.c (.int .i64 0)] 1 <|
(.ite (.v 19)
(.call none 6 [.c (.int .i64 6),.v 16,.v 17,.v 18] 4 [] <|
(.leaf (.yield 0) [.v 21,.v 22,.v 23,.v 20,.v 14] ()))
(.lt none (.bin .eql) [.v 15,.c (.int .i64 1)] 1 <|
(.ite (.v 20)
(.lt none .inb [.v 14,.c (.int .i64 0)] 0 <|
(.lt none (.row 1 0 [false]) [.v 14,.c (.int .i64 0)] 1 <|
(.lt none (.mk 10 1) [.c (.int .i64 0),.c (.int .i64 1),.c (.int .i64 0),.c (.int .i64 0),.c (.int .i64 0),.c (.int .i64 0),.c (.int .i64 0),.c (.int .i64 0),.c (.int .i64 0),.c (.rows 1 [])] 1 <|
(.lt none (.set 1 0 1) [.v 14,.c (.int .i64 0),.c .hole] 1 <|
(.lt none (.app 10 96 false) [.v 21,.v 22] 1 <|
(.lt none .inb [.v 23,.c (.int .i64 0)] 0 <|
(.lt none (.set 1 0 1) [.v 23,.c (.int .i64 0),.v 24] 1 <|
(.leaf (.yield 0) [.v 16,.v 17,.v 18,.v 8,.v 25] ()))))))))
(.leaf (.yield 0) [.v 16,.v 17,.v 18,.v 8,.v 14] ())))))) <|
(.leaf .ret [.v 18,.v 19,.v 15,.v 16,.v 17] ())))))))
def Zaw:Tm Unit :=
(.lt none .len [.v 0] 1 <|
(.call none 6 [.v 4,.v 1,.v 2,.v 3] 4 [] <|
(.lt none .inb [.v 0,.v 5] 0 <|
(.lt none (.row 1 0 [true]) [.v 0,.v 5] 1 <|
(.leaf .ret [.v 9,.v 6,.v 7,.v 8] ())))))
def Zav:Tm Unit :=
(.lt none (.mk 1 5) [.c (.int .i64 0),.c (.int .i64 0),.c (.int .i64 8),.c (.int .i64 9),.c (.int .i64 17)] 1 <|
(.call none 23 [.v 4,.v 1,.v 2,.v 3] 4 [] <|
(.call none 6 [.c (.int .i64 4),.v 6,.v 7,.v 8] 4 [] <|
(.call none 8 [.v 10,.v 11,.v 12] 8 [] <|
(.call none 6 [.c (.int .i64 5),.v 18,.v 19,.v 20] 4 [] <|
(.bind 1
(.loop [.c (.int .i64 0),.v 22,.v 23,.v 24,.c (.rows 1 [])]
(.lt none (.bin .lss) [.v 25,.v 0] 1 <|
(.ite (.v 30)
(.call none 6 [.c (.int .i64 3),.v 26,.v 27,.v 28] 4 [] <|
(.lt none (.mk 1 1) [.v 31] 1 <|
(.lt none (.app 1 8 true) [.v 29,.v 35] 1 <|
(.lt none (.bin .add) [.v 25,.c (.int .i64 1)] 1 <|
(.leaf .cont [.v 37,.v 32,.v 33,.v 34,.v 36] ())))))
(.leaf (.yield 1) [.v 26,.v 27,.v 28,.v 29] ())))) <|
(.bind 0
(.call none 9 [.c (.int .i64 2),.v 25,.v 26,.v 27] 4 [] <|
(.ite (.v 29)
(.leaf (.yield 0) [.v 30,.v 31,.v 32,.v 5] ())
(.leaf (.yield 0) [.v 30,.v 31,.v 32,.c (.int .i64 0)] ()))) <|
(.bind 0
(.lt none (.bin .eql) [.v 9,.c (.int .i64 0)] 1 <|
(.ite (.v 33)
(.call none 11 [.v 0] 2 [] <|
(.leaf (.yield 0) [.c (.int .i64 0),.c (.int .i64 0),.c (.int .i64 0),.c (.int .i64 0),.c (.int .i64 0),.c (.int .i64 0),.c (.int .i64 0),.v 34,.v 35] ()))
(.leaf (.yield 0) [.v 32,.v 9,.v 13,.v 14,.v 15,.v 16,.v 17,.v 21,.v 28] ()))) <|
(.leaf .ret [.v 5,.v 33,.v 34,.v 35,.v 36,.v 37,.v 38,.v 39,.v 40,.v 41,.v 29,.v 30,.v 31] ())))))))))
def Zau:Tm Unit :=
(.call none 26 [.v 0,.v 1] 1 [] <|
(.lt none .not [.v 2] 1 <|
(.ite (.v 3)
(.leaf .ret [.c (.rows 1 []),.c (.bool false)] ())
(.call none 45 [.v 0,.v 1] 1 [] <|
(.leaf .ret [.v 4,.c (.bool true)] ())))))
def Zat:Tm Unit :=
(.call none 27 [.v 0] 1 [] <|
(.lt (some (.v 2,true)) .len [.v 1] 1 <|
(.lt (some (.v 2,true)) .id [.v 0] 1 <|
(.lt (some (.v 2,true)) (.bin .eql) [.v 3,.v 4] 1 <|
(.lt none .pick [.v 2,.v 5,.c (.bool false)] 1 <|
(.call (some (.v 6,true)) 28 [.v 1,.v 0,.v 1] 1 [] <|
(.lt (some (.v 6,true)) .not [.v 7] 1 <|
(.lt none .pick [.v 6,.v 8,.c (.bool false)] 1 <|
(.leaf .ret [.v 9] ())))))))))
def Zas:Tm Unit :=
(.lt none (.bin .eql) [.v 0,.c (.int .i64 3)] 1 <|
(.lt (some (.v 1,false)) .id [.v 0] 1 <|
(.lt (some (.v 1,false)) (.bin .eql) [.v 2,.c (.int .i64 5)] 1 <|
(.lt none .pick [.v 1,.c (.bool true),.v 3] 1 <|
(.leaf .ret [.v 4] ())))))
def Zar:Tm Unit :=
(.call none 29 [.v 0,.v 1,.v 2] 1 [] <|
(.lt none (.bin .geq) [.v 3,.c (.int .i64 0)] 1 <|
(.leaf .ret [.v 4] ())))
def Zaq:Tm Unit :=
(.lt none .len [.v 0] 1 <|
(.bind 1
(.loop [.c (.int .i64 0)]
(.lt none (.bin .lss) [.v 4,.v 3] 1 <|
(.ite (.v 5)
(.lt none .inb [.v 0,.v 4] 0 <|
(.lt none (.row 1 0 [false]) [.v 0,.v 4] 1 <|
(.call none 30 [.v 6,.v 1,.v 2] 1 [] <|
(.ite (.v 7)
(.leaf .ret [.v 4] ())
(.lt none (.bin .add) [.v 4,.c (.int .i64 1)] 1 <|
(.leaf .cont [.v 8] ()))))))
(.leaf (.yield 1) [] ())))) <|
(.leaf .ret [.c (.int .i64 (-1))] ())))
def Zap:Tm Unit :=
(.lt none .len [.v 0] 1 <|
(.lt none (.bin .gtr) [.v 3,.c (.int .i64 6)] 1 <|
(.call (some (.v 4,false)) 31 [.v 0,.v 1,.v 2] 1 [] <|
(.lt none .pick [.v 4,.c (.bool true),.v 5] 1 <|
(.leaf .ret [.v 6] ())))))
def Zao:Tm Unit :=
(.call none 32 [.v 0,.v 1,.v 2] 1 [] <|
(.lt none (.bin .geq) [.v 3,.c (.int .i64 0)] 1 <|
(.leaf .ret [.v 4] ())))
def Zan:Tm Unit :=
(.lt none .len [.v 0] 1 <|
(.bind 1
(.loop [.c (.int .i64 0)]
(.lt none (.bin .lss) [.v 4,.v 3] 1 <|
(.ite (.v 5)
(.lt none .inb [.v 0,.v 4] 0 <|
(.lt none (.row 10 0 [true,true,true,true,true,true,true,true,true,false]) [.v 0,.v 4] 10 <|
(.call none 33 [.v 6,.v 7,.v 8,.v 9,.v 10,.v 11,.v 12,.v 13,.v 14,.v 15,.v 1,.v 2] 1 [] <|
(.ite (.v 16)
(.leaf .ret [.v 4] ())
(.lt none (.bin .add) [.v 4,.c (.int .i64 1)] 1 <|
(.leaf .cont [.v 17] ()))))))
(.leaf (.yield 1) [] ())))) <|
(.leaf .ret [.c (.int .i64 (-1))] ())))
def Zam:Tm Unit :=
(.call none 34 [.v 10,.v 0,.v 1,.v 2,.v 3,.v 4,.v 5,.v 6,.v 7,.v 8,.v 9] 1 [] <|
(.lt none .not [.v 12] 1 <|
(.leaf .ret [.v 13] ())))
def Zal:Tm Unit :=
(.call none 35 [.v 1,.c (.int .i64 0),.c (.int .i64 9999)] 1 [] <|
(.lt none .not [.v 11] 1 <|
(.lt (some (.v 12,false)) .id [.v 2] 1 <|
(.lt (some (.v 12,false)) .id [.v 1] 1 <|
(.call (some (.v 12,false)) 35 [.v 13,.c (.int .i64 0),.v 14] 1 [] <|
(.lt (some (.v 12,false)) .not [.v 15] 1 <|
(.lt none .pick [.v 12,.c (.bool true),.v 16] 1 <|
(.lt (some (.v 17,false)) .id [.v 3] 1 <|
(.call (some (.v 17,false)) 35 [.v 18,.c (.int .i64 0),.c (.int .i64 3)] 1 [] <|
(.lt (some (.v 17,false)) .not [.v 19] 1 <|
(.lt none .pick [.v 17,.c (.bool true),.v 20] 1 <|
(.call (some (.v 21,false)) 36 [.v 4,.v 5,.v 6,.v 7,.v 8] 1 [] <|
(.lt (some (.v 21,false)) .not [.v 22] 1 <|
(.lt none .pick [.v 21,.c (.bool true),.v 23] 1 <|
(.lt (some (.v 24,false)) .id [.v 0] 1 <|
(.call (some (.v 24,false)) 38 [.v 25,.v 9,.v 10] 1 [] <|
(.lt (some (.v 24,false)) .not [.v 26] 1 <|
(.lt none .pick [.v 24,.c (.bool true),.v 27] 1 <|
(.ite (.v 28)
(.leaf .ret [.c (.bool false)] ())
(.lt none (.bin .neq) [.v 3,.c (.int .i64 0)] 1 <|
(.lt (some (.v 29,false)) .id [.v 2] 1 <|
(.lt (some (.v 29,false)) (.bin .eql) [.v 30,.c (.int .i64 0)] 1 <|
(.lt (some (.v 29,false)) .id [.v 31] 1 <|
(.lt (some (.v 32,true)) (.eqs [0,0,0,0,0]) [.v 4,.v 5,.v 6,.v 7,.v 8,.c (.int .i64 0),.c (.int .i64 0),.c (.int .i64 0),.c (.int .i64 0),.c (.int .i64 0)] 1 <|
(.lt (some (.v 29,false)) .pick [.v 32,.v 33,.c (.bool false)] 1 <|
(.lt (some (.v 29,false)) .id [.v 34] 1 <|
(.lt (some (.v 35,true)) .id [.v 0] 1 <|
(.call (some (.v 35,true)) 42 [.v 36] 2 [] <|
(.call (some (.v 35,true)) 43 [.v 9,.v 10,.v 37,.v 38] 1 [] <|
(.lt (some (.v 29,false)) .pick [.v 35,.v 39,.c (.bool false)] 1 <|
(.lt none .pick [.v 29,.c (.bool true),.v 40] 1 <|
(.leaf .ret [.v 41] ()))))))))))))))))))))))))))))))))
def Zak:Tm Unit :=
(.lt none (.bin .leq) [.v 1,.v 0] 1 <|
(.lt (some (.v 3,true)) .id [.v 0] 1 <|
(.lt (some (.v 3,true)) .id [.v 2] 1 <|
(.lt (some (.v 3,true)) (.bin .leq) [.v 4,.v 5] 1 <|
(.lt none .pick [.v 3,.v 6,.c (.bool false)] 1 <|
(.leaf .ret [.v 7] ()))))))
def Zaj:Tm Unit :=
(.lt none (.bin .eql) [.v 0,.c (.int .i64 0)] 1 <|
(.ite (.v 5)
(.lt none (.eqs [0,0,0,0,0]) [.v 0,.v 1,.v 2,.v 3,.v 4,.c (.int .i64 0),.c (.int .i64 0),.c (.int .i64 0),.c (.int .i64 0),.c (.int .i64 0)] 1 <|
(.leaf .ret [.v 6] ()))
(.lt none (.bin .eql) [.v 0,.c (.int .i64 1)] 1 <|
(.ite (.v 6)
(.call none 35 [.v 1,.c (.int .i64 1),.c (.int .i64 999)] 1 [] <|
(.lt (some (.v 7,true)) .id [.v 2] 1 <|
(.call (some (.v 7,true)) 37 [.v 8] 1 [] <|
(.lt none .pick [.v 7,.v 9,.c (.bool false)] 1 <|
(.lt (some (.v 10,true)) .id [.v 3] 1 <|
(.call (some (.v 10,true)) 37 [.v 11] 1 [] <|
(.lt none .pick [.v 10,.v 12,.c (.bool false)] 1 <|
(.lt (some (.v 13,true)) .id [.v 2] 1 <|
(.lt (some (.v 13,true)) .id [.v 3] 1 <|
(.lt (some (.v 13,true)) (.bin .neq) [.v 14,.v 15] 1 <|
(.lt none .pick [.v 13,.v 16,.c (.bool false)] 1 <|
(.lt (some (.v 17,true)) .id [.v 4] 1 <|
(.call (some (.v 17,true)) 35 [.v 18,.c (.int .i64 1),.c (.int .i64 1000)] 1 [] <|
(.lt none .pick [.v 17,.v 19,.c (.bool false)] 1 <|
(.leaf .ret [.v 20] ())))))))))))))))
(.lt none (.bin .eql) [.v 0,.c (.int .i64 2)] 1 <|
(.lt (some (.v 7,true)) .id [.v 1] 1 <|
(.call (some (.v 7,true)) 35 [.v 8,.c (.int .i64 1),.c (.int .i64 999)] 1 [] <|
(.lt none .pick [.v 7,.v 9,.c (.bool false)] 1 <|
(.lt (some (.v 10,true)) .id [.v 2] 1 <|
(.call (some (.v 10,true)) 37 [.v 11] 1 [] <|
(.lt none .pick [.v 10,.v 12,.c (.bool false)] 1 <|
(.lt (some (.v 13,true)) .id [.v 3] 1 <|
(.lt (some (.v 13,true)) (.bin .eql) [.v 14,.c (.int .i64 0)] 1 <|
(.lt none .pick [.v 13,.v 15,.c (.bool false)] 1 <|
(.lt (some (.v 16,true)) .id [.v 4] 1 <|
(.lt (some (.v 16,true)) (.bin .eql) [.v 17,.c (.int .i64 0)] 1 <|
(.lt none .pick [.v 16,.v 18,.c (.bool false)] 1 <|
(.leaf .ret [.v 19] ()))))))))))))))))))
def Zai:Tm Unit :=
(.call none 35 [.v 0,.c (.int .i64 0),.c (.int .i64 3)] 1 [] <|
(.leaf .ret [.v 1] ()))
def Zah:Tm Unit :=
(.call none 27 [.v 0] 1 [] <|
(.lt (some (.v 3,true)) .id [.v 1] 1 <|
(.call (some (.v 3,true)) 35 [.v 4,.c (.int .i64 0),.c (.int .i64 999)] 1 [] <|
(.lt none .pick [.v 3,.v 5,.c (.bool false)] 1 <|
(.lt (some (.v 6,true)) .len [.v 2] 1 <|
(.lt (some (.v 6,true)) .id [.v 0] 1 <|
(.lt (some (.v 6,true)) (.bin .eql) [.v 7,.v 8] 1 <|
(.lt none .pick [.v 6,.v 9,.c (.bool false)] 1 <|
(.call (some (.v 10,true)) 39 [.v 2] 1 [] <|
(.lt (some (.v 10,true)) .not [.v 11] 1 <|
(.lt none .pick [.v 10,.v 12,.c (.bool false)] 1 <|
(.leaf .ret [.v 13] ()))))))))))))
def Zag:Tm Unit :=
(.call none 40 [.v 0] 1 [] <|
(.lt none (.bin .geq) [.v 1,.c (.int .i64 0)] 1 <|
(.leaf .ret [.v 2] ())))
def Zaf:Tm Unit :=
(.lt none .len [.v 0] 1 <|
(.bind 1
(.loop [.c (.int .i64 0)]
(.lt none (.bin .lss) [.v 2,.v 1] 1 <|
(.ite (.v 3)
(.lt none .inb [.v 0,.v 2] 0 <|
(.lt none (.row 1 0 [true]) [.v 0,.v 2] 1 <|
(.call none 41 [.v 4] 1 [] <|
(.ite (.v 5)
(.leaf .ret [.v 2] ())
(.lt none (.bin .add) [.v 2,.c (.int .i64 1)] 1 <|
(.leaf .cont [.v 6] ()))))))
(.leaf (.yield 1) [] ())))) <|
(.leaf .ret [.c (.int .i64 (-1))] ())))
def Zae:Tm Unit :=
(.call none 35 [.v 0,.c (.int .i64 0),.c (.int .i64 6)] 1 [] <|
(.lt none .not [.v 1] 1 <|
(.leaf .ret [.v 2] ())))
def Zad:Tm Unit :=
(.lt none (.make 8 [(.int .i64 0)]) [.v 0] 1 <|
(.leaf .ret [.c (.int .i64 0),.v 1] ()))
def Zac:Tm Unit :=
(.lt none (.bin .eql) [.v 0,.v 2] 1 <|
(.call (some (.v 4,true)) 44 [.v 1,.v 3] 1 [] <|
(.lt none .pick [.v 4,.v 5,.c (.bool false)] 1 <|
(.leaf .ret [.v 6] ()))))
def Zab:Tm Unit :=
(.lt none .len [.v 0] 1 <|
(.lt none .len [.v 1] 1 <|
(.lt none (.bin .neq) [.v 2,.v 3] 1 <|
(.ite (.v 4)
(.leaf .ret [.c (.bool false)] ())
(.lt none .len [.v 0] 1 <|
(.bind 1
(.loop [.c (.int .i64 0)]
(.lt none (.bin .lss) [.v 6,.v 5] 1 <|
(.ite (.v 7)
(.lt none .inb [.v 0,.v 6] 0 <|
(.lt none (.row 1 0 [true]) [.v 0,.v 6] 1 <|
(.lt none .inb [.v 1,.v 6] 0 <|
(.lt none (.row 1 0 [true]) [.v 1,.v 6] 1 <|
(.lt none (.bin .neq) [.v 8,.v 9] 1 <|
(.ite (.v 10)
(.leaf .ret [.c (.bool false)] ())
(.lt none (.bin .add) [.v 6,.c (.int .i64 1)] 1 <|
(.leaf .cont [.v 11] ()))))))))
(.leaf (.yield 1) [] ())))) <|
(.leaf .ret [.c (.bool true)] ())))))))
def Zaa:Tm Unit :=
(.call none 46 [.v 0,.v 1] 1 [] <|
(.call none 49 [.v 2,.v 0,.v 1] 1 [] <|
(.leaf .ret [.v 3] ())))
def Ya9:Tm Unit :=
(.lt none (.mk 1 0) [] 1 <|
(.call none 47 [.v 0,.v 1,.v 2] 1 [] <|
(.leaf .ret [.v 3] ())))
def Ya8:Tm Unit :=
(.lt none .len [.v 1] 1 <|
(.bind 1
(.loop [.c (.int .i64 0),.v 2]
(.lt none (.bin .lss) [.v 4,.v 3] 1 <|
(.ite (.v 6)
(.lt none .inb [.v 1,.v 4] 0 <|
(.lt none (.row 1 0 [false]) [.v 1,.v 4] 1 <|
(.lt none .len [.v 7] 1 <|
(.bind 3
(.loop [.c (.int .i64 0),.v 5]
(.lt none (.bin .lss) [.v 9,.v 8] 1 <|
(.ite (.v 11)
(.lt none .inb [.v 7,.v 9] 0 <|
(.lt none (.row 10 0 [true,true,true,true,true,true,true,true,true,false]) [.v 7,.v 9] 10 <|
(.lt none (.bin .add) [.v 9,.c (.int .i64 1)] 1 <|
(.call none 48 [.v 4,.v 22,.v 12,.v 13,.v 14,.v 15,.v 16,.v 17,.v 18,.v 19,.v 20,.v 21,.v 10] 1 [] <|
(.lt none (.bin .add) [.v 9,.c (.int .i64 1)] 1 <|
(.leaf .cont [.v 24,.v 23] ()))))))
(.leaf (.yield 3) [.v 10] ())))) <|
(.lt none (.bin .add) [.v 4,.c (.int .i64 1)] 1 <|
(.leaf .cont [.v 10,.v 9] ()))))))
(.leaf (.yield 1) [.v 5] ())))) <|
(.leaf .ret [.v 4] ())))
def Ya7:Tm Unit :=
(.lt none (.bin .eql) [.v 4,.c (.int .i64 3)] 1 <|
(.ite (.v 13)
(.lt none (.mk 1 2) [.v 0,.v 1] 1 <|
(.lt none (.mk 1 1) [.v 14] 1 <|
(.lt none (.app 1 24 false) [.v 12,.v 15] 1 <|
(.leaf .ret [.v 16] ()))))
(.leaf .ret [.v 12] ())))
def Ya6:Tm Unit :=
(.call none 50 [.v 0,.v 1,.v 2] 1 [] <|
(.lt none (.bin .eql) [.v 3,.c (.int .i64 (-1))] 1 <|
(.ite (.v 4)
(.leaf .ret [.v 0] ())
(.lt none (.bin .add) [.v 3,.c (.int .i64 1)] 1 <|
(.bind 1
(.loop [.v 0,.v 3,.v 5]
(.lt none .len [.v 6] 1 <|
(.lt none (.bin .lss) [.v 8,.v 9] 1 <|
(.ite (.v 10)
(.bind 0
(.lt none .inb [.v 6,.v 8] 0 <|
(.lt none (.row 1 0 [false]) [.v 6,.v 8] 1 <|
(.call none 51 [.v 11,.v 1,.v 2] 1 [] <|
(.lt none .not [.v 12] 1 <|
(.ite (.v 13)
(.lt none .inb [.v 6,.v 7] 0 <|
(.lt none (.set 1 0 1) [.v 6,.v 8,.c .hole] 1 <|
(.lt none (.set 1 0 1) [.v 14,.v 7,.v 11] 1 <|
(.lt none (.bin .add) [.v 7,.c (.int .i64 1)] 1 <|
(.leaf (.yield 0) [.v 15,.v 16] ())))))
(.leaf (.yield 0) [.v 6,.v 7] ())))))) <|
(.lt none (.bin .add) [.v 8,.c (.int .i64 1)] 1 <|
(.leaf .cont [.v 11,.v 12,.v 13] ())))
(.leaf (.yield 1) [.v 6,.v 7] ()))))) <|
(.lt none .len [.v 6] 1 <|
(.lt none (.sub 1 false) [.v 6,.v 7,.v 8] 1 <|
(.lt none (.clr 1) [.v 6,.v 7] 1 <|
(.lt none (.sub 1 false) [.v 10,.c (.int .i64 0),.v 7] 1 <|
(.leaf .ret [.v 11] ()))))))))))
def Cb6:Tm Unit :=
(.lt none .len [.v 0] 1 <|
(.bind 1
(.loop [.c (.int .i64 0)]
(.lt none (.bin .lss) [.v 4,.v 3] 1 <|
(.ite (.v 5)
(.lt none .inb [.v 0,.v 4] 0 <|
(.lt none (.row 1 0 [false]) [.v 0,.v 4] 1 <|
(.call none 51 [.v 6,.v 1,.v 2] 1 [] <|
(.ite (.v 7)
(.leaf .ret [.v 4] ())
(.lt none (.bin .add) [.v 4,.c (.int .i64 1)] 1 <|
(.leaf .cont [.v 8] ()))))))
(.leaf (.yield 1) [] ())))) <|
(.leaf .ret [.c (.int .i64 (-1))] ())))
def Ya5:Tm Unit :=
(.call none 52 [.v 1,.v 2,.v 0] 1 [] <|
(.lt none .len [.v 3] 1 <|
(.lt none (.bin .gtr) [.v 4,.c (.int .i64 0)] 1 <|
(.leaf .ret [.v 5] ()))))
def Cb5:Tm Unit :=
(.lt none (.mk 1 1) [.v 2] 1 <|
(.lt none (.mk 1 0) [] 1 <|
(.lt none (.mk 1 1) [.v 2] 1 <|
(.bind 1
(.loop [.v 3,.v 4,.v 5]
(.lt none .len [.v 8] 1 <|
(.lt none (.bin .gtr) [.v 9,.c (.int .i64 0)] 1 <|
(.ite (.v 10)
(.lt none .inb [.v 8,.c (.int .i64 0)] 0 <|
(.lt none (.row 1 0 [false]) [.v 8,.c (.int .i64 0)] 1 <|
(.lt none .inb [.v 11,.c (.int .i64 0)] 0 <|
(.lt none (.row 1 0 [true]) [.v 11,.c (.int .i64 0)] 1 <|
(.lt none .inb [.v 8,.c (.int .i64 0)] 0 <|
(.lt none (.row 1 0 [false]) [.v 8,.c (.int .i64 0)] 1 <|
(.lt none .inb [.v 13,.c (.int .i64 1)] 0 <|
(.lt none (.row 1 0 [true]) [.v 13,.c (.int .i64 1)] 1 <|
(.call none 53 [.v 0,.v 1,.v 12,.v 14] 10 [] <|
(.call none 57 [.v 23,.v 24] 1 [] <|
(.lt none (.dep 99) [.v 25] 0 <|
(.lt none .len [.v 25] 1 <|
(.bind 3
(.loop [.v 6,.v 7,.v 8,.v 25,.c (.int .i64 0)]
(.lt none (.bin .lss) [.v 31,.v 26] 1 <|
(.ite (.v 32)
(.bind 4
(.lt none .inb [.v 30,.v 31] 0 <|
(.lt none (.row 1 0 [false]) [.v 30,.v 31] 1 <|
(.call none 58 [.v 27,.v 33] 1 [] <|
(.ite (.v 34)
(.leaf (.yield 4) [.v 27,.v 28,.v 29] ())
(.lt none (.mk 1 1) [.v 33] 1 <|
(.lt none (.app 1 24 false) [.v 27,.v 35] 1 <|
(.lt none .inb [.v 33,.c (.int .i64 0)] 0 <|
(.lt none (.row 1 0 [true]) [.v 33,.c (.int .i64 0)] 1 <|
(.lt none .inb [.v 33,.c (.int .i64 1)] 0 <|
(.lt none (.row 1 0 [true]) [.v 33,.c (.int .i64 1)] 1 <|
(.call none 53 [.v 0,.v 1,.v 37,.v 38] 10 [] <|
(.lt none (.bin .eql) [.v 41,.c (.int .i64 3)] 1 <|
(.ite (.v 49)
(.lt none (.mk 1 1) [.v 33] 1 <|
(.lt none (.app 1 24 false) [.v 29,.v 50] 1 <|
(.leaf (.yield 4) [.v 36,.v 28,.v 51] ())))
(.lt none (.mk 1 1) [.v 33] 1 <|
(.lt none (.app 1 24 false) [.v 28,.v 50] 1 <|
(.leaf (.yield 4) [.v 36,.v 51,.v 29] ())))))))))))))))) <|
(.lt none (.bin .add) [.v 31,.c (.int .i64 1)] 1 <|
(.leaf .cont [.v 33,.v 34,.v 35,.v 30,.v 36] ())))
(.leaf (.yield 3) [.v 27,.v 28,.v 29] ())))) <|
(.lt none .len [.v 29] 1 <|
(.lt none (.sub 1 false) [.v 29,.c (.int .i64 1),.v 30] 1 <|
(.leaf .cont [.v 27,.v 28,.v 31] ()))))))))))))))))
(.leaf (.yield 1) [.v 7] ()))))) <|
(.call none 62 [.v 6] 1 [] <|
(.leaf .ret [.v 7] ()))))))
def Ya4:Tm Unit :=
(.lt none .inb [.v 1,.v 2] 0 <|
(.lt none (.row 1 0 [false]) [.v 1,.v 2] 1 <|
(.lt none .len [.v 4] 1 <|
(.lt none (.bin .leq) [.v 3,.v 5] 1 <|
(.ite (.v 6)
(.lt none .inb [.v 1,.v 2] 0 <|
(.lt none (.row 1 0 [false]) [.v 1,.v 2] 1 <|
(.lt none (.bin .sub) [.v 3,.c (.int .i64 1)] 1 <|
(.lt none .inb [.v 7,.v 8] 0 <|
(.lt none (.row 10 0 [true,true,true,true,true,true,true,true,true,false]) [.v 7,.v 8] 10 <|
(.call none 54 [.v 9,.v 10,.v 11,.v 12,.v 13,.v 14,.v 15,.v 16,.v 17,.v 18] 10 [] <|
(.leaf .ret [.v 19,.v 20,.v 21,.v 22,.v 23,.v 24,.v 25,.v 26,.v 27,.v 28] ())))))))
(.call none 42 [.v 0] 2 [] <|
(.leaf .ret [.c (.int .i64 0),.c (.int .i64 0),.c (.int .i64 0),.c (.int .i64 0),.c (.int .i64 0),.c (.int .i64 0),.c (.int .i64 0),.c (.int .i64 0),.v 7,.v 8] ())))))))
def Ya3:Tm Unit :=
(.call none 55 [.v 8,.v 9] 2 [] <|
(.leaf .ret [.v 0,.v 1,.v 2,.v 3,.v 4,.v 5,.v 6,.v 7,.v 10,.v 11] ()))
def Ya2:Tm Unit :=
(.call none 56 [.v 1] 1 [] <|
(.leaf .ret [.v 0,.v 2] ()))
def Vax:Tm Unit :=
(.lt none .ne [.v 0] 0 <|
(.lt none .emp [.v 0] 1 <|
(.ite (.v 1)
(.leaf .ret [.c (.rows 1 [])] ())
(.lt none (.mk 1 0) [] 1 <|
(.lt none (.app 1 8 true) [.v 2,.v 0] 1 <|
(.leaf .ret [.v 3] ()))))))
def Ya1:Tm Unit :=
(.lt none (.mk 1 0) [] 1 <|
(.lt none .len [.v 1] 1 <|
(.bind 1
(.loop [.v 2,.c (.int .i64 0)]
(.lt none (.bin .lss) [.v 5,.v 3] 1 <|
(.ite (.v 6)
(.lt none .inb [.v 1,.v 5] 0 <|
(.lt none (.row 1 0 [true]) [.v 1,.v 5] 1 <|
(.bind 3
(.loop [.v 4,.c (.int .i64 1)]
(.lt none (.bin .leq) [.v 9,.v 7] 1 <|
(.ite (.v 10)
(.lt none (.mk 1 2) [.v 5,.v 9] 1 <|
(.lt none (.mk 1 1) [.v 11] 1 <|
(.lt none (.app 1 24 false) [.v 8,.v 12] 1 <|
(.lt none (.bin .add) [.v 9,.c (.int .i64 1)] 1 <|
(.leaf .cont [.v 13,.v 14] ())))))
(.leaf (.yield 3) [.v 8] ())))) <|
(.lt none (.bin .add) [.v 5,.c (.int .i64 1)] 1 <|
(.leaf .cont [.v 8,.v 9] ())))))
(.leaf (.yield 1) [.v 4] ())))) <|
(.leaf .ret [.v 4] ()))))
def Ya0:Tm Unit :=
(.call none 59 [.v 0,.v 1] 1 [] <|
(.leaf .ret [.v 2] ()))
def Yaz:Tm Unit :=
(.call none 60 [.v 0,.v 1] 1 [] <|
(.lt none (.bin .geq) [.v 2,.c (.int .i64 0)] 1 <|
(.leaf .ret [.v 3] ())))
def Yay:Tm Unit :=
(.lt none .len [.v 0] 1 <|
(.bind 1
(.loop [.c (.int .i64 0)]
(.lt none (.bin .lss) [.v 3,.v 2] 1 <|
(.ite (.v 4)
(.lt none .inb [.v 0,.v 3] 0 <|
(.lt none (.row 1 0 [false]) [.v 0,.v 3] 1 <|
(.call none 61 [.v 5,.v 1] 1 [] <|
(.ite (.v 6)
(.leaf .ret [.v 3] ())
(.lt none (.bin .add) [.v 3,.c (.int .i64 1)] 1 <|
(.leaf .cont [.v 7] ()))))))
(.leaf (.yield 1) [] ())))) <|
(.leaf .ret [.c (.int .i64 (-1))] ())))
def Yax:Tm Unit :=
(.call none 44 [.v 1,.v 0] 1 [] <|
(.leaf .ret [.v 2] ()))
def Gbx:Tm Unit:=.stuck
def Yaw:Tm Unit :=
(.call none 64 [.v 0,.v 1] 1 [] <|
(.lt none .not [.v 2] 1 <|
(.ite (.v 3)
(.leaf .ret [.c (.rows 1 []),.c (.bool false)] ())
(.call none 75 [.v 0,.v 1] 1 [] <|
(.leaf .ret [.v 4,.c (.bool true)] ())))))
def Yav:Tm Unit :=
(.call none 65 [.v 0] 1 [] <|
(.lt none .not [.v 2] 1 <|
(.lt (some (.v 3,false)) .len [.v 1] 1 <|
(.lt (some (.v 3,false)) .id [.v 0] 1 <|
(.lt (some (.v 3,false)) (.bin .neq) [.v 4,.v 5] 1 <|
(.lt none .pick [.v 3,.c (.bool true),.v 6] 1 <|
(.ite (.v 7)
(.leaf .ret [.c (.bool false)] ())
(.lt none .len [.v 1] 1 <|
(.bind 1
(.loop [.c (.int .i64 0)]
(.lt none (.bin .lss) [.v 9,.v 8] 1 <|
(.ite (.v 10)
(.lt none .inb [.v 1,.v 9] 0 <|
(.lt none (.row 1 0 [false]) [.v 1,.v 9] 1 <|
(.lt none .len [.v 11] 1 <|
(.bind 3
(.loop [.c (.int .i64 0)]
(.lt none (.bin .lss) [.v 13,.v 12] 1 <|
(.ite (.v 14)
(.lt none .inb [.v 11,.v 13] 0 <|
(.lt none (.row 10 0 [true,true,true,true,true,true,true,true,true,false]) [.v 11,.v 13] 10 <|
(.call none 66 [.v 0,.v 15,.v 16,.v 17,.v 18,.v 19,.v 20,.v 21,.v 22,.v 23,.v 24] 1 [] <|
(.lt none .not [.v 25] 1 <|
(.ite (.v 26)
(.leaf .ret [.c (.bool false)] ())
(.lt none (.bin .add) [.v 13,.c (.int .i64 1)] 1 <|
(.leaf .cont [.v 27] ())))))))
(.leaf (.yield 3) [] ())))) <|
(.lt none .len [.v 11] 1 <|
(.lt none (.bin .gtr) [.v 13,.c (.int .i64 6)] 1 <|
(.ite (.v 14)
(.leaf .ret [.c (.bool false)] ())
(.lt none (.bin .add) [.v 9,.c (.int .i64 1)] 1 <|
(.leaf .cont [.v 15] ())))))))))
(.leaf (.yield 1) [] ())))) <|
(.leaf .ret [.c (.bool true)] ()))))))))))
def Yau:Tm Unit :=
(.lt none (.bin .eql) [.v 0,.c (.int .i64 3)] 1 <|
(.lt (some (.v 1,false)) .id [.v 0] 1 <|
(.lt (some (.v 1,false)) (.bin .eql) [.v 2,.c (.int .i64 5)] 1 <|
(.lt none .pick [.v 1,.c (.bool true),.v 3] 1 <|
(.leaf .ret [.v 4] ())))))
def Yat:Tm Unit :=
(.call none 67 [.v 1,.c (.int .i64 0),.c (.int .i64 9999)] 1 [] <|
(.lt none .not [.v 11] 1 <|
(.lt (some (.v 12,false)) .id [.v 2] 1 <|
(.lt (some (.v 12,false)) .id [.v 1] 1 <|
(.call (some (.v 12,false)) 67 [.v 13,.c (.int .i64 0),.v 14] 1 [] <|
(.lt (some (.v 12,false)) .not [.v 15] 1 <|
(.lt none .pick [.v 12,.c (.bool true),.v 16] 1 <|
(.lt (some (.v 17,false)) .id [.v 3] 1 <|
(.call (some (.v 17,false)) 67 [.v 18,.c (.int .i64 0),.c (.int .i64 3)] 1 [] <|
(.lt (some (.v 17,false)) .not [.v 19] 1 <|
(.lt none .pick [.v 17,.c (.bool true),.v 20] 1 <|
(.ite (.v 21)
(.leaf .ret [.c (.bool false)] ())
(.lt none (.bin .eql) [.v 3,.c (.int .i64 0)] 1 <|
(.ite (.v 22)
(.lt none (.bin .eql) [.v 2,.c (.int .i64 0)] 1 <|
(.lt (some (.v 23,true)) (.eqs [0,0,0,0,0]) [.v 4,.v 5,.v 6,.v 7,.v 8,.c (.int .i64 0),.c (.int .i64 0),.c (.int .i64 0),.c (.int .i64 0),.c (.int .i64 0)] 1 <|
(.lt none .pick [.v 23,.v 24,.c (.bool false)] 1 <|
(.lt (some (.v 25,true)) .id [.v 0] 1 <|
(.call (some (.v 25,true)) 11 [.v 26] 2 [] <|
(.call (some (.v 25,true)) 68 [.v 9,.v 10,.v 27,.v 28] 1 [] <|
(.lt none .pick [.v 25,.v 29,.c (.bool false)] 1 <|
(.leaf .ret [.v 30] ()))))))))
(.call none 70 [.v 4,.v 5,.v 6,.v 7,.v 8] 1 [] <|
(.lt (some (.v 23,true)) .id [.v 0] 1 <|
(.call (some (.v 23,true)) 73 [.v 24,.v 9,.v 10] 1 [] <|
(.lt none .pick [.v 23,.v 25,.c (.bool false)] 1 <|
(.leaf .ret [.v 26] ())))))))))))))))))))
def Yas:Tm Unit :=
(.lt none (.bin .geq) [.v 0,.v 1] 1 <|
(.lt (some (.v 3,true)) .id [.v 0] 1 <|
(.lt (some (.v 3,true)) .id [.v 2] 1 <|
(.lt (some (.v 3,true)) (.bin .leq) [.v 4,.v 5] 1 <|
(.lt none .pick [.v 3,.v 6,.c (.bool false)] 1 <|
(.leaf .ret [.v 7] ()))))))
def Yar:Tm Unit :=
(.lt none (.bin .eql) [.v 0,.v 2] 1 <|
(.call (some (.v 4,true)) 69 [.v 1,.v 3] 1 [] <|
(.lt none .pick [.v 4,.v 5,.c (.bool false)] 1 <|
(.leaf .ret [.v 6] ()))))
def Yaq:Tm Unit :=
(.lt none .len [.v 0] 1 <|
(.lt none .len [.v 1] 1 <|
(.lt none (.bin .neq) [.v 2,.v 3] 1 <|
(.ite (.v 4)
(.leaf .ret [.c (.bool false)] ())
(.lt none .len [.v 0] 1 <|
(.bind 1
(.loop [.c (.int .i64 0)]
(.lt none (.bin .lss) [.v 6,.v 5] 1 <|
(.ite (.v 7)
(.lt none .inb [.v 0,.v 6] 0 <|
(.lt none (.row 1 0 [true]) [.v 0,.v 6] 1 <|
(.lt none .inb [.v 1,.v 6] 0 <|
(.lt none (.row 1 0 [true]) [.v 1,.v 6] 1 <|
(.lt none (.bin .neq) [.v 8,.v 9] 1 <|
(.ite (.v 10)
(.leaf .ret [.c (.bool false)] ())
(.lt none (.bin .add) [.v 6,.c (.int .i64 1)] 1 <|
(.leaf .cont [.v 11] ()))))))))
(.leaf (.yield 1) [] ())))) <|
(.leaf .ret [.c (.bool true)] ())))))))
def Yap:Tm Unit :=
(.lt none (.bin .eql) [.v 0,.c (.int .i64 0)] 1 <|
(.ite (.v 5)
(.lt none (.eqs [0,0,0,0,0]) [.v 0,.v 1,.v 2,.v 3,.v 4,.c (.int .i64 0),.c (.int .i64 0),.c (.int .i64 0),.c (.int .i64 0),.c (.int .i64 0)] 1 <|
(.leaf .ret [.v 6] ()))
(.lt none (.bin .eql) [.v 0,.c (.int .i64 1)] 1 <|
(.ite (.v 6)
(.call none 71 [.v 0,.v 1,.v 2,.v 3,.v 4] 1 [] <|
(.lt none (.bin .eql) [.v 7,.c (.int .i64 0)] 1 <|
(.leaf .ret [.v 8] ())))
(.lt none (.bin .eql) [.v 0,.c (.int .i64 2)] 1 <|
(.ite (.v 7)
(.call none 71 [.v 0,.v 1,.v 2,.v 3,.v 4] 1 [] <|
(.lt none (.bin .eql) [.v 8,.c (.int .i64 0)] 1 <|
(.lt (some (.v 9,true)) .id [.v 3] 1 <|
(.lt (some (.v 9,true)) (.bin .eql) [.v 10,.c (.int .i64 0)] 1 <|
(.lt none .pick [.v 9,.v 11,.c (.bool false)] 1 <|
(.lt (some (.v 12,true)) .id [.v 4] 1 <|
(.lt (some (.v 12,true)) (.bin .eql) [.v 13,.c (.int .i64 0)] 1 <|
(.lt none .pick [.v 12,.v 14,.c (.bool false)] 1 <|
(.leaf .ret [.v 15] ())))))))))
(.leaf .ret [.c (.bool false)] ())))))))
def Yao:Tm Unit :=
(.lt none (.bin .eql) [.v 0,.c (.int .i64 1)] 1 <|
(.call none 72 [.v 2] 1 [] <|
(.lt none .not [.v 6] 1 <|
(.lt (some (.v 7,false)) .id [.v 5] 1 <|
(.lt (some (.v 7,false)) .id [.v 8] 1 <|
(.lt (some (.v 9,true)) .id [.v 3] 1 <|
(.call (some (.v 9,true)) 72 [.v 10] 1 [] <|
(.lt (some (.v 9,true)) .not [.v 11] 1 <|
(.lt (some (.v 7,false)) .pick [.v 9,.v 12,.c (.bool false)] 1 <|
(.lt none .pick [.v 7,.c (.bool true),.v 13] 1 <|
(.ite (.v 14)
(.leaf .ret [.c (.int .i64 4)] ())
(.lt (some (.v 5,true)) .id [.v 2] 1 <|
(.lt (some (.v 5,true)) .id [.v 3] 1 <|
(.lt (some (.v 5,true)) (.bin .eql) [.v 15,.v 16] 1 <|
(.lt none .pick [.v 5,.v 17,.c (.bool false)] 1 <|
(.ite (.v 18)
(.leaf .ret [.c (.int .i64 5)] ())
(.call none 67 [.v 1,.c (.int .i64 1),.c (.int .i64 999)] 1 [] <|
(.lt none .not [.v 19] 1 <|
(.lt (some (.v 20,false)) .id [.v 5] 1 <|
(.lt (some (.v 20,false)) .id [.v 21] 1 <|
(.lt (some (.v 22,true)) .id [.v 4] 1 <|
(.call (some (.v 22,true)) 67 [.v 23,.c (.int .i64 1),.c (.int .i64 1000)] 1 [] <|
(.lt (some (.v 22,true)) .not [.v 24] 1 <|
(.lt (some (.v 20,false)) .pick [.v 22,.v 25,.c (.bool false)] 1 <|
(.lt none .pick [.v 20,.c (.bool true),.v 26] 1 <|
(.ite (.v 27)
(.leaf .ret [.c (.int .i64 6)] ())
(.leaf .ret [.c (.int .i64 0)] ())))))))))))))))))))))))))))
def Yan:Tm Unit :=
(.call none 67 [.v 0,.c (.int .i64 0),.c (.int .i64 3)] 1 [] <|
(.leaf .ret [.v 1] ()))
def Cb4:Tm Unit :=
(.call none 67 [.v 1,.c (.int .i64 0),.c (.int .i64 999)] 1 [] <|
(.lt (some (.v 3,true)) .len [.v 2] 1 <|
(.lt (some (.v 3,true)) .id [.v 0] 1 <|
(.lt (some (.v 3,true)) (.bin .eql) [.v 4,.v 5] 1 <|
(.lt none .pick [.v 3,.v 6,.c (.bool false)] 1 <|
(.call (some (.v 7,true)) 74 [.v 2,.c (.int .i64 0),.c (.int .i64 6)] 1 [] <|
(.lt none .pick [.v 7,.v 8,.c (.bool false)] 1 <|
(.leaf .ret [.v 9] ()))))))))
def Gbw:Tm Unit :=
(.lt none .len [.v 0] 1 <|
(.bind 1
(.loop [.c (.int .i64 0)]
(.lt none (.bin .lss) [.v 4,.v 3] 1 <|
(.ite (.v 5)
(.lt none .inb [.v 0,.v 4] 0 <|
(.lt none (.row 1 0 [true]) [.v 0,.v 4] 1 <|
(.call none 67 [.v 6,.v 1,.v 2] 1 [] <|
(.lt none .not [.v 7] 1 <|
(.ite (.v 8)
(.leaf .ret [.c (.bool false)] ())
(.lt none (.bin .add) [.v 4,.c (.int .i64 1)] 1 <|
(.leaf .cont [.v 9] ())))))))
(.leaf (.yield 1) [] ())))) <|
(.leaf .ret [.c (.bool true)] ())))
def Gb3:Tm Unit :=
(.call none 76 [.v 0,.v 1] 1 [] <|
(.lt none .len [.v 2] 1 <|
(.bind 1
(.loop [.c (.rows 1 []),.v 2,.c (.int .i64 0)]
(.lt none (.bin .lss) [.v 6,.v 3] 1 <|
(.ite (.v 7)
(.bind 0
(.lt none .inb [.v 5,.v 6] 0 <|
(.lt none (.row 1 0 [false]) [.v 5,.v 6] 1 <|
(.lt none .inb [.v 8,.c (.int .i64 0)] 0 <|
(.lt none (.row 1 0 [true]) [.v 8,.c (.int .i64 0)] 1 <|
(.lt none .inb [.v 8,.c (.int .i64 1)] 0 <|
(.lt none (.row 1 0 [true]) [.v 8,.c (.int .i64 1)] 1 <|
(.call none 77 [.v 0,.v 1,.v 9,.v 10] 1 [] <|
(.lt none .len [.v 11] 1 <|
(.lt none (.bin .eql) [.v 12,.c (.int .i64 0)] 1 <|
(.ite (.v 13)
(.lt none (.mk 1 1) [.v 8] 1 <|
(.lt none (.app 1 24 false) [.v 4,.v 14] 1 <|
(.leaf (.yield 0) [.v 15] ())))
(.leaf (.yield 0) [.v 4] ()))))))))))) <|
(.lt none (.bin .add) [.v 6,.c (.int .i64 1)] 1 <|
(.leaf .cont [.v 8,.v 5,.v 9] ())))
(.leaf (.yield 1) [.v 4] ())))) <|
(.leaf .ret [.v 4] ()))))
def Lb5:Tm Unit :=
(.lt none .len [.v 1] 1 <|
(.bind 1
(.loop [.c (.rows 1 []),.c (.int .i64 0)]
(.lt none (.bin .lss) [.v 4,.v 2] 1 <|
(.ite (.v 5)
(.lt none .inb [.v 1,.v 4] 0 <|
(.lt none (.row 1 0 [false]) [.v 1,.v 4] 1 <|
(.lt none .len [.v 6] 1 <|
(.bind 3
(.loop [.v 3,.c (.int .i64 0)]
(.lt none (.bin .lss) [.v 9,.v 7] 1 <|
(.ite (.v 10)
(.bind 0
(.lt none .inb [.v 6,.v 9] 0 <|
(.lt none (.row 10 0 [true,true,true,true,true,true,true,true,true,false]) [.v 6,.v 9] 10 <|
(.lt none (.bin .eql) [.v 13,.c (.int .i64 3)] 1 <|
(.ite (.v 21)
(.lt none (.bin .add) [.v 9,.c (.int .i64 1)] 1 <|
(.lt none (.mk 1 2) [.v 4,.v 22] 1 <|
(.lt none (.mk 1 1) [.v 23] 1 <|
(.lt none (.app 1 24 false) [.v 8,.v 24] 1 <|
(.leaf (.yield 0) [.v 25] ())))))
(.leaf (.yield 0) [.v 8] ()))))) <|
(.lt none (.bin .add) [.v 9,.c (.int .i64 1)] 1 <|
(.leaf .cont [.v 11,.v 12] ())))
(.leaf (.yield 3) [.v 8] ())))) <|
(.lt none (.bin .add) [.v 4,.c (.int .i64 1)] 1 <|
(.leaf .cont [.v 8,.v 9] ()))))))
(.leaf (.yield 1) [.v 3] ())))) <|
(.leaf .ret [.v 3] ())))
def Gbv:Tm Unit :=
(.lt none (.mk 1 2) [.v 2,.v 3] 1 <|
(.lt none (.mk 1 1) [.v 4] 1 <|
(.bind 1
(.loop [.v 5,.c (.rows 1 []),.c (.int .i64 0)]
(.lt none .len [.v 6] 1 <|
(.lt none (.bin .lss) [.v 8,.v 9] 1 <|
(.ite (.v 10)
(.lt none .inb [.v 6,.v 8] 0 <|
(.lt none (.row 1 0 [false]) [.v 6,.v 8] 1 <|
(.lt none .inb [.v 11,.c (.int .i64 0)] 0 <|
(.lt none (.row 1 0 [true]) [.v 11,.c (.int .i64 0)] 1 <|
(.lt none .inb [.v 6,.v 8] 0 <|
(.lt none (.row 1 0 [false]) [.v 6,.v 8] 1 <|
(.lt none .inb [.v 13,.c (.int .i64 1)] 0 <|
(.lt none (.row 1 0 [true]) [.v 13,.c (.int .i64 1)] 1 <|
(.call none 78 [.v 0,.v 1,.v 12,.v 14] 1 [] <|
(.lt none .len [.v 15] 1 <|
(.bind 3
(.loop [.v 6,.v 7,.v 15,.c (.int .i64 0)]
(.lt none (.bin .lss) [.v 20,.v 16] 1 <|
(.ite (.v 21)
(.bind 4
(.lt none .inb [.v 19,.v 20] 0 <|
(.lt none (.row 1 0 [false]) [.v 19,.v 20] 1 <|
(.call none 80 [.v 17,.v 22] 1 [] <|
(.lt none (.bin .geq) [.v 23,.c (.int .i64 0)] 1 <|
(.call (some (.v 24,false)) 80 [.v 18,.v 22] 1 [] <|
(.lt (some (.v 24,false)) (.bin .geq) [.v 25,.c (.int .i64 0)] 1 <|
(.lt none .pick [.v 24,.c (.bool true),.v 26] 1 <|
(.ite (.v 27)
(.leaf (.yield 4) [.v 17,.v 18,.c .undef,.c .undef] ())
(.lt none .inb [.v 22,.c (.int .i64 0)] 0 <|
(.lt none (.row 1 0 [true]) [.v 22,.c (.int .i64 0)] 1 <|
(.lt none .inb [.v 22,.c (.int .i64 1)] 0 <|
(.lt none (.row 1 0 [true]) [.v 22,.c (.int .i64 1)] 1 <|
(.call none 79 [.v 0,.v 1,.v 28,.v 29] 10 [] <|
(.lt none (.bin .eql) [.v 32,.c (.int .i64 3)] 1 <|
(.ite (.v 40)
(.lt none (.mk 1 1) [.v 22] 1 <|
(.lt none (.app 1 24 false) [.v 17,.v 41] 1 <|
(.leaf (.yield 4) [.v 42,.v 18,.c .undef,.c .undef] ())))
(.call none 81 [.v 18,.v 22] 1 [] <|
(.leaf (.yield 4) [.v 17,.v 41,.c .undef,.c .undef] ()))))))))))))))))) <|
(.lt none (.bin .add) [.v 20,.c (.int .i64 1)] 1 <|
(.leaf .cont [.v 22,.v 23,.v 19,.v 26] ())))
(.leaf (.yield 3) [.v 17,.v 18] ())))) <|
(.lt none (.bin .add) [.v 8,.c (.int .i64 1)] 1 <|
(.leaf .cont [.v 17,.v 18,.v 19] ())))))))))))))
(.leaf (.yield 1) [.v 7] ()))))) <|
(.leaf .ret [.v 6] ()))))
def Gb2:Tm Unit :=
(.call none 79 [.v 0,.v 1,.v 2,.v 3] 10 [] <|
(.lt none .len [.v 13] 1 <|
(.bind 1
(.loop [.c (.rows 1 []),.c (.int .i64 0)]
(.lt none (.bin .lss) [.v 16,.v 14] 1 <|
(.ite (.v 17)
(.lt none .inb [.v 13,.v 16] 0 <|
(.lt none (.row 1 0 [true]) [.v 13,.v 16] 1 <|
(.bind 3
(.loop [.v 15,.c (.int .i64 1)]
(.lt none (.bin .leq) [.v 20,.v 18] 1 <|
(.ite (.v 21)
(.bind 0
(.lt none (.bin .neq) [.v 16,.v 2] 1 <|
(.lt (some (.v 22,false)) .id [.v 20] 1 <|
(.lt (some (.v 22,false)) .id [.v 3] 1 <|
(.lt (some (.v 22,false)) (.bin .neq) [.v 23,.v 24] 1 <|
(.lt none .pick [.v 22,.c (.bool true),.v 25] 1 <|
(.ite (.v 26)
(.lt none (.mk 1 2) [.v 16,.v 20] 1 <|
(.lt none (.mk 1 1) [.v 27] 1 <|
(.lt none (.app 1 24 false) [.v 19,.v 28] 1 <|
(.leaf (.yield 0) [.v 29,.c .undef,.c .undef,.c .undef] ()))))
(.leaf (.yield 0) [.v 19,.c .undef,.c .undef,.c .undef] ()))))))) <|
(.lt none (.bin .add) [.v 20,.c (.int .i64 1)] 1 <|
(.leaf .cont [.v 22,.v 26] ())))
(.leaf (.yield 3) [.v 19] ())))) <|
(.lt none (.bin .add) [.v 16,.c (.int .i64 1)] 1 <|
(.leaf .cont [.v 19,.v 20] ())))))
(.leaf (.yield 1) [.v 15] ())))) <|
(.leaf .ret [.v 15] ()))))
def Gb1:Tm Unit :=
(.lt none .inb [.v 1,.v 2] 0 <|
(.lt none (.row 1 0 [false]) [.v 1,.v 2] 1 <|
(.lt none .len [.v 4] 1 <|
(.lt none (.bin .gtr) [.v 3,.v 5] 1 <|
(.ite (.v 6)
(.call none 11 [.v 0] 2 [] <|
(.leaf .ret [.c (.int .i64 0),.c (.int .i64 0),.c (.int .i64 0),.c (.int .i64 0),.c (.int .i64 0),.c (.int .i64 0),.c (.int .i64 0),.c (.int .i64 0),.v 7,.v 8] ()))
(.lt none .inb [.v 1,.v 2] 0 <|
(.lt none (.row 1 0 [false]) [.v 1,.v 2] 1 <|
(.lt none (.bin .sub) [.v 3,.c (.int .i64 1)] 1 <|
(.lt none .inb [.v 7,.v 8] 0 <|
(.lt none (.row 10 0 [true,true,true,true,true,true,true,true,true,false]) [.v 7,.v 8] 10 <|
(.call none 19 [.v 9,.v 10,.v 11,.v 12,.v 13,.v 14,.v 15,.v 16,.v 17,.v 18] 10 [] <|
(.leaf .ret [.v 19,.v 20,.v 21,.v 22,.v 23,.v 24,.v 25,.v 26,.v 27,.v 28] ()))))))))))))
def Yam:Tm Unit :=
(.lt none .len [.v 0] 1 <|
(.bind 1
(.loop [.c (.int .i64 0)]
(.lt none (.bin .lss) [.v 3,.v 2] 1 <|
(.ite (.v 4)
(.lt none .inb [.v 0,.v 3] 0 <|
(.lt none (.row 1 0 [false]) [.v 0,.v 3] 1 <|
(.call none 69 [.v 1,.v 5] 1 [] <|
(.ite (.v 6)
(.leaf .ret [.v 3] ())
(.lt none (.bin .add) [.v 3,.c (.int .i64 1)] 1 <|
(.leaf .cont [.v 7] ()))))))
(.leaf (.yield 1) [] ())))) <|
(.leaf .ret [.c (.int .i64 (-1))] ())))
def Yal:Tm Unit :=
(.lt none .len [.v 0] 1 <|
(.bind 1
(.loop [.v 2]
(.lt none (.bin .gtr) [.v 3,.c (.int .i64 0)] 1 <|
(.lt (some (.v 4,true)) .id [.v 3] 1 <|
(.lt (some (.v 4,true)) (.bin .sub) [.v 5,.c (.int .i64 1)] 1 <|
(.lt (some (.v 4,true)) .inb [.v 0,.v 6] 0 <|
(.lt (some (.v 4,true)) (.row 1 0 [false]) [.v 0,.v 6] 1 <|
(.lt (some (.v 4,true)) .inb [.v 7,.c (.int .i64 0)] 0 <|
(.lt (some (.v 4,true)) (.row 1 0 [true]) [.v 7,.c (.int .i64 0)] 1 <|
(.lt (some (.v 4,true)) .inb [.v 1,.c (.int .i64 0)] 0 <|
(.lt (some (.v 4,true)) (.row 1 0 [true]) [.v 1,.c (.int .i64 0)] 1 <|
(.lt (some (.v 4,true)) (.bin .gtr) [.v 8,.v 9] 1 <|
(.lt (some (.v 4,true)) .id [.v 10] 1 <|
(.lt (some (.v 11,false)) .id [.v 3] 1 <|
(.lt (some (.v 11,false)) (.bin .sub) [.v 12,.c (.int .i64 1)] 1 <|
(.lt (some (.v 11,false)) .inb [.v 0,.v 13] 0 <|
(.lt (some (.v 11,false)) (.row 1 0 [false]) [.v 0,.v 13] 1 <|
(.lt (some (.v 11,false)) .inb [.v 14,.c (.int .i64 0)] 0 <|
(.lt (some (.v 11,false)) (.row 1 0 [true]) [.v 14,.c (.int .i64 0)] 1 <|
(.lt (some (.v 11,false)) .inb [.v 1,.c (.int .i64 0)] 0 <|
(.lt (some (.v 11,false)) (.row 1 0 [true]) [.v 1,.c (.int .i64 0)] 1 <|
(.lt (some (.v 11,false)) (.bin .eql) [.v 15,.v 16] 1 <|
(.lt (some (.v 11,false)) .id [.v 17] 1 <|
(.lt (some (.v 18,true)) .id [.v 3] 1 <|
(.lt (some (.v 18,true)) (.bin .sub) [.v 19,.c (.int .i64 1)] 1 <|
(.lt (some (.v 18,true)) .inb [.v 0,.v 20] 0 <|
(.lt (some (.v 18,true)) (.row 1 0 [false]) [.v 0,.v 20] 1 <|
(.lt (some (.v 18,true)) .inb [.v 21,.c (.int .i64 1)] 0 <|
(.lt (some (.v 18,true)) (.row 1 0 [true]) [.v 21,.c (.int .i64 1)] 1 <|
(.lt (some (.v 18,true)) .inb [.v 1,.c (.int .i64 1)] 0 <|
(.lt (some (.v 18,true)) (.row 1 0 [true]) [.v 1,.c (.int .i64 1)] 1 <|
(.lt (some (.v 18,true)) (.bin .gtr) [.v 22,.v 23] 1 <|
(.lt (some (.v 11,false)) .pick [.v 18,.v 24,.c (.bool false)] 1 <|
(.lt (some (.v 4,true)) .pick [.v 11,.c (.bool true),.v 25] 1 <|
(.lt none .pick [.v 4,.v 26,.c (.bool false)] 1 <|
(.ite (.v 27)
(.lt none (.bin .sub) [.v 3,.c (.int .i64 1)] 1 <|
(.leaf .cont [.v 28] ()))
(.leaf (.yield 1) [.v 3] ())))))))))))))))))))))))))))))))))))) <|
(.lt none (.mk 1 0) [] 1 <|
(.lt none .len [.v 0] 1 <|
(.lt none (.sub 1 false) [.v 0,.v 3,.v 5] 1 <|
(.lt none (.app 1 24 false) [.v 4,.v 6] 1 <|
(.lt none (.mk 1 0) [] 1 <|
(.lt none (.sub 1 false) [.v 0,.c (.int .i64 0),.v 3] 1 <|
(.lt none (.app 1 24 false) [.v 8,.v 9] 1 <|
(.lt none (.mk 1 1) [.v 1] 1 <|
(.lt none (.app 1 24 false) [.v 10,.v 11] 1 <|
(.lt none (.app 1 24 false) [.v 12,.v 7] 1 <|
(.leaf .ret [.v 13] ())))))))))))))
def Yak:Tm Unit :=
(.call none 26 [.v 0,.v 1] 1 [] <|
(.lt none .not [.v 2] 1 <|
(.ite (.v 3)
(.leaf .ret [.c (.rows 1 []),.c (.bool false)] ())
(.call none 83 [.v 0,.v 1] 1 [] <|
(.leaf .ret [.v 4,.c (.bool true)] ())))))
def Yaj:Tm Unit :=
(.call none 84 [.v 0] 2 [] <|
(.call none 45 [.v 0,.v 1] 1 [] <|
(.lt none .len [.v 4] 1 <|
(.bind 1
(.loop [.c (.int .i64 0),.v 2,.v 3]
(.lt none (.bin .lss) [.v 6,.v 5] 1 <|
(.ite (.v 9)
(.lt none .inb [.v 4,.v 6] 0 <|
(.lt none (.row 1 0 [false]) [.v 4,.v 6] 1 <|
(.lt none .inb [.v 10,.c (.int .i64 0)] 0 <|
(.lt none (.row 1 0 [true]) [.v 10,.c (.int .i64 0)] 1 <|
(.lt none .inb [.v 10,.c (.int .i64 1)] 0 <|
(.lt none (.row 1 0 [true]) [.v 10,.c (.int .i64 1)] 1 <|
(.lt none .inb [.v 10,.c (.int .i64 0)] 0 <|
(.lt none (.row 1 0 [true]) [.v 10,.c (.int .i64 0)] 1 <|
(.lt none .inb [.v 10,.c (.int .i64 1)] 0 <|
(.lt none (.row 1 0 [true]) [.v 10,.c (.int .i64 1)] 1 <|
(.call none 53 [.v 0,.v 1,.v 13,.v 14] 10 [] <|
(.call none 85 [.v 11,.v 12,.v 15,.v 16,.v 17,.v 18,.v 19,.v 20,.v 21,.v 22,.v 23,.v 24,.v 7,.v 8] 2 [] <|
(.lt none (.dep 99) [.v 26] 0 <|
(.lt none (.bin .add) [.v 6,.c (.int .i64 1)] 1 <|
(.leaf .cont [.v 27,.v 25,.v 26] ())))))))))))))))
(.leaf (.yield 1) [.v 7,.v 8] ())))) <|
(.call none 86 [.v 6,.v 7] 2 [] <|
(.lt none (.dep 99) [.v 8] 0 <|
(.lt none (.dep 99) [.v 9] 0 <|
(.lt none (.mk 1 0) [] 1 <|
(.lt none .len [.v 8] 1 <|
(.bind 3
(.loop [.v 10,.c (.int .i64 0)]
(.lt none (.bin .lss) [.v 13,.v 11] 1 <|
(.ite (.v 14)
(.lt none .inb [.v 8,.v 13] 0 <|
(.lt none (.row 1 0 [false]) [.v 8,.v 13] 1 <|
(.lt none .inb [.v 15,.c (.int .i64 0)] 0 <|
(.lt none (.row 1 0 [true]) [.v 15,.c (.int .i64 0)] 1 <|
(.lt none .inb [.v 15,.c (.int .i64 1)] 0 <|
(.lt none (.row 1 0 [true]) [.v 15,.c (.int .i64 1)] 1 <|
(.call none 53 [.v 6,.v 7,.v 16,.v 17] 10 [] <|
(.lt none (.dep 99) [.v 27] 0 <|
(.lt none (.bin .mul) [.c (.int .i64 100),.v 26] 1 <|
(.lt none .inb [.v 15,.c (.int .i64 0)] 0 <|
(.lt none (.row 1 0 [true]) [.v 15,.c (.int .i64 0)] 1 <|
(.lt none (.bin .mul) [.c (.int .i64 10),.v 29] 1 <|
(.lt none (.bin .add) [.v 28,.v 30] 1 <|
(.lt none .inb [.v 15,.c (.int .i64 1)] 0 <|
(.lt none (.row 1 0 [true]) [.v 15,.c (.int .i64 1)] 1 <|
(.lt none (.bin .add) [.v 31,.v 32] 1 <|
(.lt none (.mk 1 1) [.v 33] 1 <|
(.lt none (.app 1 8 true) [.v 12,.v 34] 1 <|
(.lt none (.bin .add) [.v 13,.c (.int .i64 1)] 1 <|
(.leaf .cont [.v 35,.v 36] ()))))))))))))))))))))
(.leaf (.yield 3) [.v 12] ())))) <|
(.lt none (.mk 1 0) [] 1 <|
(.call none 87 [.v 9,.v 12] 1 [] <|
(.lt none (.dep 99) [.v 14] 0 <|
(.lt none .len [.v 14] 1 <|
(.bind 5
(.loop [.v 8,.v 13,.c (.int .i64 0)]
(.lt none (.bin .lss) [.v 18,.v 15] 1 <|
(.ite (.v 19)
(.lt none .inb [.v 14,.v 18] 0 <|
(.lt none (.row 1 0 [true]) [.v 14,.v 18] 1 <|
(.lt none .inb [.v 16,.v 20] 0 <|
(.lt none (.row 1 0 [false]) [.v 16,.v 20] 1 <|
(.lt none (.set 1 0 1) [.v 16,.v 20,.c .hole] 1 <|
(.lt none (.mk 1 1) [.v 21] 1 <|
(.lt none (.app 1 24 false) [.v 17,.v 23] 1 <|
(.lt none (.bin .add) [.v 18,.c (.int .i64 1)] 1 <|
(.leaf .cont [.v 22,.v 24,.v 25] ())))))))))
(.leaf (.yield 5) [.v 17] ())))) <|
(.leaf .ret [.v 16] ()))))))))))))))))
def Yai:Tm Unit :=
(.lt none (.make 24 [(.rows 10 [])]) [.v 0] 1 <|
(.leaf .ret [.v 0,.v 1] ()))
def Yah:Tm Unit :=
(.bind 1
(.loop [.v 13]
(.lt none .inb [.v 14,.v 0] 0 <|
(.lt none (.row 1 0 [false]) [.v 14,.v 0] 1 <|
(.lt none .len [.v 15] 1 <|
(.lt none (.bin .lss) [.v 16,.v 1] 1 <|
(.ite (.v 17)
(.lt none .inb [.v 14,.v 0] 0 <|
(.lt none (.row 1 0 [false]) [.v 14,.v 0] 1 <|
(.call none 42 [.v 12] 2 [] <|
(.lt none (.mk 10 1) [.c (.int .i64 0),.c (.int .i64 0),.c (.int .i64 0),.c (.int .i64 0),.c (.int .i64 0),.c (.int .i64 0),.c (.int .i64 0),.c (.int .i64 0),.v 19,.v 20] 1 <|
(.lt none (.set 1 0 1) [.v 14,.v 0,.c .hole] 1 <|
(.lt none (.app 10 96 false) [.v 18,.v 21] 1 <|
(.lt none .inb [.v 22,.v 0] 0 <|
(.lt none (.set 1 0 1) [.v 22,.v 0,.v 23] 1 <|
(.leaf .cont [.v 24] ())))))))))
(.leaf (.yield 1) [.v 14] ()))))))) <|
(.lt none .inb [.v 14,.v 0] 0 <|
(.lt none (.row 1 0 [false]) [.v 14,.v 0] 1 <|
(.lt none (.bin .sub) [.v 1,.c (.int .i64 1)] 1 <|
(.call none 54 [.v 2,.v 3,.v 4,.v 5,.v 6,.v 7,.v 8,.v 9,.v 10,.v 11] 10 [] <|
(.lt none .inb [.v 15,.v 16] 0 <|
(.lt none (.set 10 0 10) [.v 15,.v 16,.v 17,.v 18,.v 19,.v 20,.v 21,.v 22,.v 23,.v 24,.v 25,.v 26] 1 <|
(.lt none (.set 1 0 1) [.v 14,.v 0,.v 27] 1 <|
(.leaf .ret [.v 12,.v 28] ())))))))))
def Yag:Tm Unit :=
(.call none 46 [.v 0,.v 1] 1 [] <|
(.lt none (.mk 1 0) [] 1 <|
(.lt none .len [.v 2] 1 <|
(.bind 1
(.loop [.v 3,.c (.int .i64 0)]
(.lt none (.bin .lss) [.v 6,.v 4] 1 <|
(.ite (.v 7)
(.lt none .inb [.v 2,.v 6] 0 <|
(.lt none (.row 1 0 [false]) [.v 2,.v 6] 1 <|
(.lt none .inb [.v 8,.c (.int .i64 0)] 0 <|
(.lt none (.row 1 0 [true]) [.v 8,.c (.int .i64 0)] 1 <|
(.lt none .inb [.v 8,.c (.int .i64 1)] 0 <|
(.lt none (.row 1 0 [true]) [.v 8,.c (.int .i64 1)] 1 <|
(.call none 53 [.v 0,.v 1,.v 9,.v 10] 10 [] <|
(.lt none (.mk 1 0) [] 1 <|
(.lt none .len [.v 2] 1 <|
(.bind 3
(.loop [.v 21,.c (.int .i64 0)]
(.lt none (.bin .lss) [.v 24,.v 22] 1 <|
(.ite (.v 25)
(.bind 0
(.lt none .inb [.v 2,.v 24] 0 <|
(.lt none (.row 1 0 [false]) [.v 2,.v 24] 1 <|
(.call none 44 [.v 8,.v 26] 1 [] <|
(.lt none .not [.v 27] 1 <|
(.lt (some (.v 28,true)) .inb [.v 26,.c (.int .i64 1)] 0 <|
(.lt (some (.v 28,true)) (.row 1 0 [true]) [.v 26,.c (.int .i64 1)] 1 <|
(.lt (some (.v 28,true)) .inb [.v 26,.c (.int .i64 0)] 0 <|
(.lt (some (.v 28,true)) (.row 1 0 [true]) [.v 26,.c (.int .i64 0)] 1 <|
(.lt (some (.v 28,true)) .inb [.v 20,.v 30] 0 <|
(.lt (some (.v 28,true)) (.row 1 0 [true]) [.v 20,.v 30] 1 <|
(.lt (some (.v 28,true)) (.bin .leq) [.v 29,.v 31] 1 <|
(.lt none .pick [.v 28,.v 32,.c (.bool false)] 1 <|
(.ite (.v 33)
(.lt none (.mk 1 1) [.v 24] 1 <|
(.lt none (.app 1 8 true) [.v 23,.v 34] 1 <|
(.leaf (.yield 0) [.v 35,.c .undef,.c .undef,.c .undef,.c .undef] ())))
(.leaf (.yield 0) [.v 23,.c .undef,.c .undef,.c .undef,.c .undef] ())))))))))))))) <|
(.lt none (.bin .add) [.v 24,.c (.int .i64 1)] 1 <|
(.leaf .cont [.v 26,.v 31] ())))
(.leaf (.yield 3) [.v 23] ())))) <|
(.lt none (.mk 1 1) [.v 23] 1 <|
(.lt none (.app 1 24 false) [.v 5,.v 24] 1 <|
(.lt none (.bin .add) [.v 6,.c (.int .i64 1)] 1 <|
(.leaf .cont [.v 25,.v 26] ()))))))))))))))
(.leaf (.yield 1) [.v 5] ())))) <|
(.leaf .ret [.v 2,.v 5] ())))))
def Yaf:Tm Unit :=
(.lt none (.mk 1 0) [] 1 <|
(.call none 88 [.v 0] 1 [] <|
(.lt none .len [.v 3] 1 <|
(.bind 1
(.loop [.v 2,.v 3,.c (.int .i64 0)]
(.lt none (.bin .lss) [.v 7,.v 4] 1 <|
(.ite (.v 8)
(.lt none .inb [.v 6,.v 7] 0 <|
(.lt none (.row 1 0 [false]) [.v 6,.v 7] 1 <|
(.lt none (.set 1 0 1) [.v 6,.v 7,.c .hole] 1 <|
(.call none 98 [.v 9,.v 1] 1 [] <|
(.lt none (.dep 1) [.v 11] 0 <|
(.lt none (.app 1 8 true) [.v 5,.v 11] 1 <|
(.lt none (.bin .add) [.v 7,.c (.int .i64 1)] 1 <|
(.leaf .cont [.v 12,.v 10,.v 13] ()))))))))
(.leaf (.yield 1) [.v 5] ())))) <|
(.leaf .ret [.v 5] ())))))
def Yae:Tm Unit :=
(.lt none (.mk 1 0) [] 1 <|
(.lt none .len [.v 0] 1 <|
(.bind 1
(.loop [.c (.int .i64 0),.v 1]
(.lt none (.bin .lss) [.v 3,.v 2] 1 <|
(.ite (.v 5)
(.call none 89 [.v 0,.v 3] 1 [] <|
(.lt none (.mk 1 1) [.v 6] 1 <|
(.lt none (.app 1 24 false) [.v 4,.v 7] 1 <|
(.lt none (.bin .add) [.v 3,.c (.int .i64 1)] 1 <|
(.leaf .cont [.v 9,.v 8] ())))))
(.leaf (.yield 1) [.v 4] ())))) <|
(.lt none (.mk 1 0) [] 1 <|
(.lt none .len [.v 0] 1 <|
(.lt none (.make 1 [(.bool false)]) [.v 5] 1 <|
(.lt none .len [.v 0] 1 <|
(.bind 3
(.loop [.v 4,.c (.int .i64 0)]
(.lt none (.bin .lss) [.v 9,.v 7] 1 <|
(.ite (.v 10)
(.bind 0
(.lt none (.mk 1 0) [] 1 <|
(.lt none .len [.v 0] 1 <|
(.bind 5
(.loop [.v 11,.c (.int .i64 0)]
(.lt none (.bin .lss) [.v 14,.v 12] 1 <|
(.ite (.v 15)
(.bind 0
(.lt none .inb [.v 3,.v 9] 0 <|
(.lt none (.row 1 0 [false]) [.v 3,.v 9] 1 <|
(.call none 90 [.v 16,.v 14] 1 [] <|
(.lt (some (.v 17,true)) .id [.v 14] 1 <|
(.lt (some (.v 17,true)) .inb [.v 3,.v 18] 0 <|
(.lt (some (.v 17,true)) (.row 1 0 [false]) [.v 3,.v 18] 1 <|
(.lt (some (.v 17,true)) .id [.v 9] 1 <|
(.call (some (.v 17,true)) 90 [.v 19,.v 20] 1 [] <|
(.lt none .pick [.v 17,.v 21,.c (.bool false)] 1 <|
(.ite (.v 22)
(.lt none (.mk 1 1) [.v 14] 1 <|
(.lt none (.app 1 8 true) [.v 13,.v 23] 1 <|
(.leaf (.yield 0) [.v 24,.c .undef,.c .undef,.c .undef] ())))
(.leaf (.yield 0) [.v 13,.c .undef,.c .undef,.c .undef] ()))))))))))) <|
(.lt none (.bin .add) [.v 14,.c (.int .i64 1)] 1 <|
(.leaf .cont [.v 16,.v 20] ())))
(.leaf (.yield 5) [.v 13] ())))) <|
(.lt none .inb [.v 13,.c (.int .i64 0)] 0 <|
(.lt none (.row 1 0 [true]) [.v 13,.c (.int .i64 0)] 1 <|
(.lt none (.bin .eql) [.v 14,.v 9] 1 <|
(.ite (.v 15)
(.lt none (.mk 1 1) [.v 13] 1 <|
(.lt none (.app 1 24 false) [.v 8,.v 16] 1 <|
(.leaf (.yield 0) [.v 17] ())))
(.leaf (.yield 0) [.v 8] ())))))))) <|
(.lt none (.bin .add) [.v 9,.c (.int .i64 1)] 1 <|
(.leaf .cont [.v 11,.v 12] ())))
(.leaf (.yield 3) [.v 8] ())))) <|
(.lt none (.mk 1 0) [] 1 <|
(.bind 7
(.loop [.v 8,.v 9,.v 6]
(.lt none .len [.v 10] 1 <|
(.lt none (.bin .gtr) [.v 13,.c (.int .i64 0)] 1 <|
(.ite (.v 14)
(.lt none .ne [.v 3] 0 <|
(.lt none .ne [.v 12] 0 <|
(.call none 92 [.v 10,.v 3,.v 12] 1 [] <|
(.lt none .inb [.v 10,.v 15] 0 <|
(.lt none (.row 1 0 [false]) [.v 10,.v 15] 1 <|
(.lt none .len [.v 16] 1 <|
(.bind 9
(.loop [.c (.int .i64 0),.v 12]
(.lt none (.bin .lss) [.v 18,.v 17] 1 <|
(.ite (.v 20)
(.lt none .inb [.v 16,.v 18] 0 <|
(.lt none (.row 1 0 [true]) [.v 16,.v 18] 1 <|
(.lt none .inb [.v 19,.v 21] 0 <|
(.lt none (.set 1 0 1) [.v 19,.v 21,.c (.bool true)] 1 <|
(.lt none (.bin .add) [.v 18,.c (.int .i64 1)] 1 <|
(.leaf .cont [.v 23,.v 22] ()))))))
(.leaf (.yield 9) [.v 19] ())))) <|
(.lt none .inb [.v 10,.v 15] 0 <|
(.lt none (.row 1 0 [false]) [.v 10,.v 15] 1 <|
(.lt none (.set 1 0 1) [.v 10,.v 15,.c .hole] 1 <|
(.lt none (.mk 1 1) [.v 19] 1 <|
(.lt none (.app 1 24 false) [.v 11,.v 21] 1 <|
(.lt none (.bin .add) [.v 15,.c (.int .i64 1)] 1 <|
(.call none 97 [.v 20,.v 15,.v 23] 1 [] <|
(.leaf .cont [.v 24,.v 22,.v 18] ())))))))))))))))
(.leaf (.yield 7) [.v 11,.v 12] ()))))) <|
(.leaf .ret [.v 10] ())))))))))))
def Yad:Tm Unit :=
(.lt none .len [.v 0] 1 <|
(.lt none (.make 1 [(.bool false)]) [.v 2] 1 <|
(.lt none .inb [.v 3,.v 1] 0 <|
(.lt none (.set 1 0 1) [.v 3,.v 1,.c (.bool true)] 1 <|
(.lt none (.mk 1 1) [.v 1] 1 <|
(.bind 1
(.loop [.v 4,.v 5]
(.lt none .len [.v 7] 1 <|
(.lt none (.bin .gtr) [.v 8,.c (.int .i64 0)] 1 <|
(.ite (.v 9)
(.lt none .inb [.v 7,.c (.int .i64 0)] 0 <|
(.lt none (.row 1 0 [true]) [.v 7,.c (.int .i64 0)] 1 <|
(.lt none .inb [.v 0,.v 10] 0 <|
(.lt none (.row 1 0 [false]) [.v 0,.v 10] 1 <|
(.lt none .len [.v 11] 1 <|
(.bind 3
(.loop [.v 6,.v 7,.c (.int .i64 0)]
(.lt none (.bin .lss) [.v 15,.v 12] 1 <|
(.ite (.v 16)
(.bind 0
(.lt none .inb [.v 11,.v 15] 0 <|
(.lt none (.row 1 0 [true]) [.v 11,.v 15] 1 <|
(.lt none .inb [.v 13,.v 17] 0 <|
(.lt none (.row 1 0 [true]) [.v 13,.v 17] 1 <|
(.lt none .not [.v 18] 1 <|
(.ite (.v 19)
(.lt none .inb [.v 13,.v 17] 0 <|
(.lt none (.set 1 0 1) [.v 13,.v 17,.c (.bool true)] 1 <|
(.lt none (.mk 1 1) [.v 17] 1 <|
(.lt none (.app 1 8 true) [.v 14,.v 21] 1 <|
(.leaf (.yield 0) [.v 20,.v 22] ())))))
(.leaf (.yield 0) [.v 13,.v 14] ()))))))) <|
(.lt none (.bin .add) [.v 15,.c (.int .i64 1)] 1 <|
(.leaf .cont [.v 17,.v 18,.v 19] ())))
(.leaf (.yield 3) [.v 13,.v 14] ())))) <|
(.lt none .len [.v 14] 1 <|
(.lt none (.sub 1 true) [.v 14,.c (.int .i64 1),.v 15] 1 <|
(.leaf .cont [.v 13,.v 16] ())))))))))
(.leaf (.yield 1) [.v 6] ()))))) <|
(.lt none (.mk 1 0) [] 1 <|
(.lt none .len [.v 6] 1 <|
(.bind 5
(.loop [.v 7,.c (.int .i64 0)]
(.lt none (.bin .lss) [.v 10,.v 8] 1 <|
(.ite (.v 11)
(.bind 0
(.lt none .inb [.v 6,.v 10] 0 <|
(.lt none (.row 1 0 [true]) [.v 6,.v 10] 1 <|
(.ite (.v 12)
(.lt none (.mk 1 1) [.v 10] 1 <|
(.lt none (.app 1 8 true) [.v 9,.v 13] 1 <|
(.leaf (.yield 0) [.v 14] ())))
(.leaf (.yield 0) [.v 9] ())))) <|
(.lt none (.bin .add) [.v 10,.c (.int .i64 1)] 1 <|
(.leaf .cont [.v 12,.v 13] ())))
(.leaf (.yield 5) [.v 9] ())))) <|
(.leaf .ret [.v 9] ()))))))))))
def Vaw:Tm Unit :=
(.call none 91 [.v 0,.v 1] 1 [] <|
(.lt none (.bin .geq) [.v 2,.c (.int .i64 0)] 1 <|
(.leaf .ret [.v 3] ())))
def Yac:Tm Unit :=
(.lt none .len [.v 0] 1 <|
(.bind 1
(.loop [.c (.int .i64 0)]
(.lt none (.bin .lss) [.v 3,.v 2] 1 <|
(.ite (.v 4)
(.lt none .inb [.v 0,.v 3] 0 <|
(.lt none (.row 1 0 [true]) [.v 0,.v 3] 1 <|
(.lt none (.bin .eql) [.v 1,.v 5] 1 <|
(.ite (.v 6)
(.leaf .ret [.v 3] ())
(.lt none (.bin .add) [.v 3,.c (.int .i64 1)] 1 <|
(.leaf .cont [.v 7] ()))))))
(.leaf (.yield 1) [] ())))) <|
(.leaf .ret [.c (.int .i64 (-1))] ())))
def Yab:Tm Unit :=
(.lt none .len [.v 0] 1 <|
(.bind 1
(.loop [.c (.int .i64 0)]
(.lt none (.bin .lss) [.v 4,.v 3] 1 <|
(.ite (.v 5)
(.lt none .inb [.v 0,.v 4] 0 <|
(.lt none (.row 1 0 [false]) [.v 0,.v 4] 1 <|
(.call none 93 [.v 6,.v 1,.v 2] 1 [] <|
(.ite (.v 7)
(.leaf .ret [.v 4] ())
(.lt none (.bin .add) [.v 4,.c (.int .i64 1)] 1 <|
(.leaf .cont [.v 8] ()))))))
(.leaf (.yield 1) [] ())))) <|
(.leaf .ret [.c (.int .i64 (-1))] ())))
def Vav:Tm Unit :=
(.lt none .inb [.v 0,.c (.int .i64 0)] 0 <|
(.lt none (.row 1 0 [true]) [.v 0,.c (.int .i64 0)] 1 <|
(.lt none .inb [.v 1,.v 3] 0 <|
(.lt none (.row 1 0 [false]) [.v 1,.v 3] 1 <|
(.call none 94 [.v 4,.v 2,.v 0] 1 [] <|
(.lt none .not [.v 5] 1 <|
(.leaf .ret [.v 6] ())))))))
def Yaa:Tm Unit :=
(.call none 95 [.v 0,.v 1,.v 2] 1 [] <|
(.lt none (.bin .geq) [.v 3,.c (.int .i64 0)] 1 <|
(.leaf .ret [.v 4] ())))
def Xa9:Tm Unit :=
(.lt none .len [.v 0] 1 <|
(.bind 1
(.loop [.c (.int .i64 0)]
(.lt none (.bin .lss) [.v 4,.v 3] 1 <|
(.ite (.v 5)
(.lt none .inb [.v 0,.v 4] 0 <|
(.lt none (.row 1 0 [true]) [.v 0,.v 4] 1 <|
(.call none 96 [.v 6,.v 1,.v 2] 1 [] <|
(.ite (.v 7)
(.leaf .ret [.v 4] ())
(.lt none (.bin .add) [.v 4,.c (.int .i64 1)] 1 <|
(.leaf .cont [.v 8] ()))))))
(.leaf (.yield 1) [] ())))) <|
(.leaf .ret [.c (.int .i64 (-1))] ())))
def Gbu:Tm Unit :=
(.lt none .inb [.v 1,.v 0] 0 <|
(.lt none (.row 1 0 [true]) [.v 1,.v 0] 1 <|
(.lt none .not [.v 3] 1 <|
(.lt (some (.v 4,true)) .id [.v 0] 1 <|
(.call (some (.v 4,true)) 90 [.v 2,.v 5] 1 [] <|
(.lt (some (.v 4,true)) .not [.v 6] 1 <|
(.lt none .pick [.v 4,.v 7,.c (.bool false)] 1 <|
(.leaf .ret [.v 8] ()))))))))
def Gbt:Tm Unit:=.stuck
def Gbs:Tm Unit:=.stuck
def Gbr:Tm Unit :=
(.call none 64 [.v 0,.v 1] 1 [] <|
(.lt none .not [.v 2] 1 <|
(.ite (.v 3)
(.leaf .ret [.c (.rows 1 []),.c (.bool false)] ())
(.call none 100 [.v 0,.v 1] 1 [] <|
(.leaf .ret [.v 4,.c (.bool true)] ())))))
def Faj:Tm Unit :=
(.call none 75 [.v 0,.v 1] 1 [] <|
(.call none 18 [.v 0,.v 1] 2 [] <|
(.lt none .len [.v 4] 1 <|
(.bind 1
(.loop [.c (.int .i64 0),.v 4]
(.lt none (.bin .lss) [.v 6,.v 5] 1 <|
(.ite (.v 8)
(.lt none .inb [.v 7,.v 6] 0 <|
(.lt none (.row 1 0 [false]) [.v 7,.v 6] 1 <|
(.lt none .len [.v 9] 1 <|
(.bind 3
(.loop [.c (.int .i64 0),.v 7]
(.lt none (.bin .lss) [.v 11,.v 10] 1 <|
(.ite (.v 13)
(.bind 0
(.lt none (.bin .add) [.v 11,.c (.int .i64 1)] 1 <|
(.lt none (.mk 1 2) [.v 6,.v 14] 1 <|
(.call none 80 [.v 2,.v 15] 1 [] <|
(.lt none (.bin .lss) [.v 16,.c (.int .i64 0)] 1 <|
(.ite (.v 17)
(.lt none .inb [.v 12,.v 6] 0 <|
(.lt none (.row 1 0 [false]) [.v 12,.v 6] 1 <|
(.call none 11 [.v 0] 2 [] <|
(.lt none .inb [.v 18,.v 11] 0 <|
(.lt none (.set 10 0 10) [.v 18,.v 11,.c (.int .i64 0),.c (.int .i64 0),.c (.int .i64 0),.c (.int .i64 0),.c (.int .i64 0),.c (.int .i64 0),.c (.int .i64 0),.c (.int .i64 0),.v 19,.v 20] 1 <|
(.lt none (.set 1 0 1) [.v 12,.v 6,.v 21] 1 <|
(.leaf (.yield 0) [.v 22] ())))))))
(.leaf (.yield 0) [.v 12] ())))))) <|
(.lt none (.bin .add) [.v 11,.c (.int .i64 1)] 1 <|
(.leaf .cont [.v 15,.v 14] ())))
(.leaf (.yield 3) [.v 12] ())))) <|
(.lt none (.bin .add) [.v 6,.c (.int .i64 1)] 1 <|
(.leaf .cont [.v 12,.v 11] ()))))))
(.leaf (.yield 1) [.v 7] ())))) <|
(.call none 101 [.v 3,.v 6] 2 [] <|
(.lt none (.dep 99) [.v 7] 0 <|
(.lt none .len [.v 7] 1 <|
(.bind 5
(.loop [.c (.rows 1 []),.c (.int .i64 0)]
(.lt none (.bin .lss) [.v 11,.v 9] 1 <|
(.ite (.v 12)
(.lt none .inb [.v 7,.v 11] 0 <|
(.lt none (.row 1 0 [false]) [.v 7,.v 11] 1 <|
(.lt none .inb [.v 13,.c (.int .i64 0)] 0 <|
(.lt none (.row 1 0 [true]) [.v 13,.c (.int .i64 0)] 1 <|
(.lt none .inb [.v 13,.c (.int .i64 1)] 0 <|
(.lt none (.row 1 0 [true]) [.v 13,.c (.int .i64 1)] 1 <|
(.call none 79 [.v 0,.v 1,.v 14,.v 15] 10 [] <|
(.lt none (.bin .mul) [.c (.int .i64 100),.v 24] 1 <|
(.lt none .inb [.v 13,.c (.int .i64 0)] 0 <|
(.lt none (.row 1 0 [true]) [.v 13,.c (.int .i64 0)] 1 <|
(.lt none (.bin .mul) [.c (.int .i64 10),.v 27] 1 <|
(.lt none (.bin .add) [.v 26,.v 28] 1 <|
(.lt none .inb [.v 13,.c (.int .i64 1)] 0 <|
(.lt none (.row 1 0 [true]) [.v 13,.c (.int .i64 1)] 1 <|
(.lt none (.bin .add) [.v 29,.v 30] 1 <|
(.lt none (.mk 1 1) [.v 31] 1 <|
(.lt none (.app 1 8 true) [.v 10,.v 32] 1 <|
(.lt none (.bin .add) [.v 11,.c (.int .i64 1)] 1 <|
(.leaf .cont [.v 33,.v 34] ())))))))))))))))))))
(.leaf (.yield 5) [.v 10] ())))) <|
(.call none 102 [.v 8,.v 10] 1 [] <|
(.lt none (.dep 99) [.v 11] 0 <|
(.lt none .len [.v 11] 1 <|
(.bind 7
(.loop [.v 7,.c (.rows 1 []),.c (.int .i64 0)]
(.lt none (.bin .lss) [.v 15,.v 12] 1 <|
(.ite (.v 16)
(.lt none .inb [.v 11,.v 15] 0 <|
(.lt none (.row 1 0 [true]) [.v 11,.v 15] 1 <|
(.lt none .inb [.v 13,.v 17] 0 <|
(.lt none (.row 1 0 [false]) [.v 13,.v 17] 1 <|
(.lt none (.mk 1 1) [.v 18] 1 <|
(.lt none (.app 1 24 false) [.v 14,.v 19] 1 <|
(.lt none (.bin .add) [.v 15,.c (.int .i64 1)] 1 <|
(.leaf .cont [.v 13,.v 20,.v 21] ()))))))))
(.leaf (.yield 7) [.v 14] ())))) <|
(.leaf .ret [.v 13] ())))))))))))))
def Fai:Tm Unit :=
(.call none 76 [.v 0,.v 1] 1 [] <|
(.lt none .len [.v 2] 1 <|
(.bind 1
(.loop [.c (.rows 1 []),.c (.int .i64 0)]
(.lt none (.bin .lss) [.v 5,.v 3] 1 <|
(.ite (.v 6)
(.lt none .inb [.v 2,.v 5] 0 <|
(.lt none (.row 1 0 [false]) [.v 2,.v 5] 1 <|
(.lt none .inb [.v 7,.c (.int .i64 0)] 0 <|
(.lt none (.row 1 0 [true]) [.v 7,.c (.int .i64 0)] 1 <|
(.lt none .inb [.v 7,.c (.int .i64 1)] 0 <|
(.lt none (.row 1 0 [true]) [.v 7,.c (.int .i64 1)] 1 <|
(.call none 78 [.v 0,.v 1,.v 8,.v 9] 1 [] <|
(.lt none .len [.v 10] 1 <|
(.bind 3
(.loop [.c (.rows 1 []),.c (.int .i64 0)]
(.lt none (.bin .lss) [.v 13,.v 11] 1 <|
(.ite (.v 14)
(.bind 0
(.lt none .inb [.v 10,.v 13] 0 <|
(.lt none (.row 1 0 [false]) [.v 10,.v 13] 1 <|
(.call none 80 [.v 2,.v 15] 1 [] <|
(.lt none (.bin .geq) [.v 16,.c (.int .i64 0)] 1 <|
(.ite (.v 17)
(.call none 14 [.v 12,.v 16] 1 [] <|
(.leaf (.yield 0) [.v 18] ()))
(.leaf (.yield 0) [.v 12] ())))))) <|
(.lt none (.bin .add) [.v 13,.c (.int .i64 1)] 1 <|
(.leaf .cont [.v 15,.v 16] ())))
(.leaf (.yield 3) [.v 12] ())))) <|
(.lt none (.mk 1 1) [.v 12] 1 <|
(.lt none (.app 1 24 false) [.v 4,.v 13] 1 <|
(.lt none (.bin .add) [.v 5,.c (.int .i64 1)] 1 <|
(.leaf .cont [.v 14,.v 15] ())))))))))))))
(.leaf (.yield 1) [.v 4] ())))) <|
(.leaf .ret [.v 2,.v 4] ()))))
def Fah:Tm Unit :=
(.call none 103 [.v 0] 1 [] <|
(.lt none .len [.v 2] 1 <|
(.bind 1
(.loop [.c (.rows 1 []),.c (.int .i64 0)]
(.lt none (.bin .lss) [.v 5,.v 3] 1 <|
(.ite (.v 6)
(.lt none .inb [.v 2,.v 5] 0 <|
(.lt none (.row 1 0 [false]) [.v 2,.v 5] 1 <|
(.call none 106 [.v 7,.v 1] 1 [] <|
(.lt none (.app 1 8 true) [.v 4,.v 8] 1 <|
(.lt none (.bin .add) [.v 5,.c (.int .i64 1)] 1 <|
(.leaf .cont [.v 9,.v 10] ()))))))
(.leaf (.yield 1) [.v 4] ())))) <|
(.leaf .ret [.v 4] ()))))
def Fag:Tm Unit :=
(.call none 104 [.v 0] 1 [] <|
(.bind 1
(.loop [.v 1,.c (.rows 1 [])]
(.lt none .len [.v 2] 1 <|
(.lt none (.bin .gtr) [.v 4,.c (.int .i64 0)] 1 <|
(.ite (.v 5)
(.lt none .len [.v 2] 1 <|
(.bind 3
(.loop [.c (.int .i64 0)]
(.lt none (.bin .lss) [.v 7,.v 6] 1 <|
(.ite (.v 8)
(.lt none .inb [.v 2,.v 7] 0 <|
(.lt none (.row 1 0 [false]) [.v 2,.v 7] 1 <|
(.lt none .len [.v 9] 1 <|
(.bind 5
(.loop [.c (.bool true),.c (.int .i64 0)]
(.lt none (.bin .lss) [.v 12,.v 10] 1 <|
(.ite (.v 13)
(.lt none .inb [.v 9,.v 12] 0 <|
(.lt none (.row 1 0 [true]) [.v 9,.v 12] 1 <|
(.lt none .len [.v 2] 1 <|
(.bind 7
(.loop [.v 11,.c (.int .i64 0)]
(.lt none (.bin .lss) [.v 17,.v 15] 1 <|
(.ite (.v 18)
(.lt none .inb [.v 2,.v 17] 0 <|
(.lt none (.row 1 0 [false]) [.v 2,.v 17] 1 <|
(.lt none .len [.v 19] 1 <|
(.bind 9
(.loop [.v 16,.c (.int .i64 0)]
(.lt none (.bin .lss) [.v 22,.v 20] 1 <|
(.ite (.v 23)
(.lt none .inb [.v 19,.v 22] 0 <|
(.lt none (.row 1 0 [true]) [.v 19,.v 22] 1 <|
(.lt (some (.v 21,true)) .id [.v 17] 1 <|
(.lt (some (.v 21,true)) .id [.v 7] 1 <|
(.lt (some (.v 21,true)) (.bin .eql) [.v 25,.v 26] 1 <|
(.lt (some (.v 21,true)) .id [.v 27] 1 <|
(.lt (some (.v 28,false)) .id [.v 14] 1 <|
(.lt (some (.v 28,false)) .inb [.v 0,.v 29] 0 <|
(.lt (some (.v 28,false)) (.row 1 0 [false]) [.v 0,.v 29] 1 <|
(.lt (some (.v 28,false)) .id [.v 24] 1 <|
(.call (some (.v 28,false)) 15 [.v 30,.v 31] 1 [] <|
(.lt (some (.v 28,false)) .not [.v 32] 1 <|
(.lt (some (.v 21,true)) .pick [.v 28,.c (.bool true),.v 33] 1 <|
(.lt none .pick [.v 21,.v 34,.c (.bool false)] 1 <|
(.lt none (.bin .add) [.v 22,.c (.int .i64 1)] 1 <|
(.leaf .cont [.v 35,.v 36] ()))))))))))))))))
(.leaf (.yield 9) [.v 21] ())))) <|
(.lt none (.bin .add) [.v 17,.c (.int .i64 1)] 1 <|
(.leaf .cont [.v 21,.v 22] ()))))))
(.leaf (.yield 7) [.v 16] ())))) <|
(.lt none (.bin .add) [.v 12,.c (.int .i64 1)] 1 <|
(.leaf .cont [.v 16,.v 17] ()))))))
(.leaf (.yield 5) [.v 11] ())))) <|
(.ite (.v 11)
(.lt none (.mk 1 1) [.v 9] 1 <|
(.lt none (.app 1 24 false) [.v 3,.v 12] 1 <|
(.lt none (.mk 1 0) [] 1 <|
(.lt none (.sub 1 false) [.v 2,.c (.int .i64 0),.v 7] 1 <|
(.lt none (.app 1 24 false) [.v 14,.v 15] 1 <|
(.lt none (.bin .add) [.v 7,.c (.int .i64 1)] 1 <|
(.lt none .len [.v 2] 1 <|
(.lt none (.sub 1 false) [.v 2,.v 17,.v 18] 1 <|
(.lt none (.app 1 24 false) [.v 16,.v 19] 1 <|
(.leaf (.yield 3) [.v 20,.v 13] ()))))))))))
(.lt none (.bin .add) [.v 7,.c (.int .i64 1)] 1 <|
(.leaf .cont [.v 12] ())))))))
(.leaf (.yield 3) [.v 2,.v 3] ())))) <|
(.leaf .cont [.v 7,.v 8] ())))
(.leaf (.yield 1) [.v 3] ()))))) <|
(.leaf .ret [.v 2] ())))
def Faf:Tm Unit :=
(.lt none .len [.v 0] 1 <|
(.bind 1
(.loop [.c (.rows 1 []),.c (.int .i64 0)]
(.lt none (.bin .lss) [.v 3,.v 1] 1 <|
(.ite (.v 4)
(.call none 105 [.v 0,.v 3] 1 [] <|
(.lt none (.mk 1 1) [.v 5] 1 <|
(.lt none (.app 1 24 false) [.v 2,.v 6] 1 <|
(.lt none (.bin .add) [.v 3,.c (.int .i64 1)] 1 <|
(.leaf .cont [.v 7,.v 8] ())))))
(.leaf (.yield 1) [.v 2] ())))) <|
(.lt none .len [.v 0] 1 <|
(.bind 3
(.loop [.c (.rows 1 []),.c (.int .i64 0)]
(.lt none (.bin .lss) [.v 5,.v 3] 1 <|
(.ite (.v 6)
(.bind 0
(.lt none .inb [.v 2,.v 5] 0 <|
(.lt none (.row 1 0 [false]) [.v 2,.v 5] 1 <|
(.lt none .len [.v 7] 1 <|
(.bind 5
(.loop [.c (.rows 1 []),.c (.int .i64 0)]
(.lt none (.bin .lss) [.v 10,.v 8] 1 <|
(.ite (.v 11)
(.bind 0
(.lt none .inb [.v 7,.v 10] 0 <|
(.lt none (.row 1 0 [true]) [.v 7,.v 10] 1 <|
(.lt none .inb [.v 2,.v 12] 0 <|
(.lt none (.row 1 0 [false]) [.v 2,.v 12] 1 <|
(.call none 15 [.v 13,.v 5] 1 [] <|
(.ite (.v 14)
(.lt none (.mk 1 1) [.v 12] 1 <|
(.lt none (.app 1 8 true) [.v 9,.v 15] 1 <|
(.leaf (.yield 0) [.v 16] ())))
(.leaf (.yield 0) [.v 9] ()))))))) <|
(.lt none (.bin .add) [.v 10,.c (.int .i64 1)] 1 <|
(.leaf .cont [.v 12,.v 13] ())))
(.leaf (.yield 5) [.v 9] ())))) <|
(.lt none .inb [.v 9,.c (.int .i64 0)] 0 <|
(.lt none (.row 1 0 [true]) [.v 9,.c (.int .i64 0)] 1 <|
(.lt none (.bin .eql) [.v 10,.v 5] 1 <|
(.ite (.v 11)
(.lt none (.mk 1 1) [.v 9] 1 <|
(.lt none (.app 1 24 false) [.v 4,.v 12] 1 <|
(.leaf (.yield 0) [.v 13] ())))
(.leaf (.yield 0) [.v 4] ()))))))))) <|
(.lt none (.bin .add) [.v 5,.c (.int .i64 1)] 1 <|
(.leaf .cont [.v 7,.v 8] ())))
(.leaf (.yield 3) [.v 4] ())))) <|
(.leaf .ret [.v 4] ())))))
def Fae:Tm Unit :=
(.lt none (.mk 1 1) [.v 1] 1 <|
(.lt none (.mk 1 1) [.v 1] 1 <|
(.bind 1
(.loop [.v 2,.v 3,.c (.int .i64 0)]
(.lt none .len [.v 5] 1 <|
(.lt none (.bin .lss) [.v 6,.v 7] 1 <|
(.ite (.v 8)
(.lt none .inb [.v 5,.v 6] 0 <|
(.lt none (.row 1 0 [true]) [.v 5,.v 6] 1 <|
(.lt none .inb [.v 0,.v 9] 0 <|
(.lt none (.row 1 0 [false]) [.v 0,.v 9] 1 <|
(.lt none .len [.v 10] 1 <|
(.bind 3
(.loop [.v 4,.v 5,.c (.int .i64 0)]
(.lt none (.bin .lss) [.v 14,.v 11] 1 <|
(.ite (.v 15)
(.bind 0
(.lt none .inb [.v 10,.v 14] 0 <|
(.lt none (.row 1 0 [true]) [.v 10,.v 14] 1 <|
(.call none 15 [.v 13,.v 16] 1 [] <|
(.lt none .not [.v 17] 1 <|
(.ite (.v 18)
(.lt none (.mk 1 1) [.v 16] 1 <|
(.lt none (.app 1 8 true) [.v 13,.v 19] 1 <|
(.call none 14 [.v 12,.v 16] 1 [] <|
(.leaf (.yield 0) [.v 21,.v 20] ()))))
(.leaf (.yield 0) [.v 12,.v 13] ())))))) <|
(.lt none (.bin .add) [.v 14,.c (.int .i64 1)] 1 <|
(.leaf .cont [.v 16,.v 17,.v 18] ())))
(.leaf (.yield 3) [.v 12,.v 13] ())))) <|
(.lt none (.bin .add) [.v 6,.c (.int .i64 1)] 1 <|
(.leaf .cont [.v 12,.v 13,.v 14] ()))))))))
(.leaf (.yield 1) [.v 4] ()))))) <|
(.leaf .ret [.v 4] ()))))
def Fad:Tm Unit :=
(.lt none .len [.v 0] 1 <|
(.bind 1
(.loop [.c (.rows 1 []),.c (.int .i64 0)]
(.lt none (.bin .lss) [.v 4,.v 2] 1 <|
(.ite (.v 5)
(.lt none .inb [.v 0,.v 4] 0 <|
(.lt none (.row 1 0 [true]) [.v 0,.v 4] 1 <|
(.lt none .len [.v 3] 1 <|
(.bind 3
(.loop [.v 7]
(.lt none (.bin .gtr) [.v 8,.c (.int .i64 0)] 1 <|
(.lt (some (.v 9,true)) .id [.v 8] 1 <|
(.lt (some (.v 9,true)) (.bin .sub) [.v 10,.c (.int .i64 1)] 1 <|
(.lt (some (.v 9,true)) .inb [.v 3,.v 11] 0 <|
(.lt (some (.v 9,true)) (.row 1 0 [true]) [.v 3,.v 11] 1 <|
(.lt (some (.v 9,true)) .inb [.v 1,.v 12] 0 <|
(.lt (some (.v 9,true)) (.row 1 0 [true]) [.v 1,.v 12] 1 <|
(.lt (some (.v 9,true)) .id [.v 6] 1 <|
(.lt (some (.v 9,true)) .inb [.v 1,.v 14] 0 <|
(.lt (some (.v 9,true)) (.row 1 0 [true]) [.v 1,.v 14] 1 <|
(.lt (some (.v 9,true)) (.bin .gtr) [.v 13,.v 15] 1 <|
(.lt none .pick [.v 9,.v 16,.c (.bool false)] 1 <|
(.ite (.v 17)
(.lt none (.bin .sub) [.v 8,.c (.int .i64 1)] 1 <|
(.leaf .cont [.v 18] ()))
(.leaf (.yield 3) [.v 8,.c .undef,.c .undef,.c .undef,.c .undef,.c .undef,.c .undef,.c .undef] ()))))))))))))))) <|
(.lt none .len [.v 3] 1 <|
(.lt none (.sub 1 true) [.v 3,.v 8,.v 16] 1 <|
(.call none 21 [.v 17] 1 [] <|
(.lt none (.dep 99) [.v 18] 0 <|
(.lt none (.sub 1 false) [.v 3,.c (.int .i64 0),.v 8] 1 <|
(.lt none (.mk 1 1) [.v 6] 1 <|
(.lt none (.app 1 8 true) [.v 19,.v 20] 1 <|
(.lt none (.app 1 8 true) [.v 21,.v 18] 1 <|
(.lt none (.bin .add) [.v 4,.c (.int .i64 1)] 1 <|
(.leaf .cont [.v 22,.v 23] ()))))))))))))))
(.leaf (.yield 1) [.v 3] ())))) <|
(.leaf .ret [.v 3] ())))
def Fac:Tm Unit :=
(.call none 26 [.v 0,.v 1] 1 [] <|
(.lt none .not [.v 2] 1 <|
(.ite (.v 3)
(.leaf .ret [.c (.rows 1 []),.c (.rows 1 []),.c (.bool false)] ())
(.call none 86 [.v 0,.v 1] 2 [] <|
(.lt none .len [.v 4] 1 <|
(.lt none (.bin .gtr) [.v 6,.c (.int .i64 40)] 1 <|
(.ite (.v 7)
(.leaf .ret [.c (.rows 1 []),.c (.rows 1 []),.c (.bool false)] ())
(.leaf .ret [.v 4,.v 5,.c (.bool true)] ()))))))))
def Fab:Tm Unit :=
(.call none 64 [.v 0,.v 1] 1 [] <|
(.lt none .not [.v 2] 1 <|
(.ite (.v 3)
(.leaf .ret [.c (.rows 1 []),.c (.rows 1 []),.c (.bool false)] ())
(.call none 101 [.v 0,.v 1] 2 [] <|
(.lt none .len [.v 4] 1 <|
(.lt none (.bin .gtr) [.v 6,.c (.int .i64 40)] 1 <|
(.ite (.v 7)
(.leaf .ret [.c (.rows 1 []),.c (.rows 1 []),.c (.bool false)] ())
(.leaf .ret [.v 4,.v 5,.c (.bool true)] ()))))))))
def Nam:Tm Unit :=
(.lt none .len [.v 0] 1 <|
(.lt none .len [.v 1] 1 <|
(.lt none (.bin .neq) [.v 2,.v 3] 1 <|
(.ite (.v 4)
(.leaf .ret [.c (.bool false)] ())
(.lt none .len [.v 0] 1 <|
(.bind 1
(.loop [.c (.int .i64 0)]
(.lt none (.bin .lss) [.v 6,.v 5] 1 <|
(.ite (.v 7)
(.lt none .inb [.v 0,.v 6] 0 <|
(.lt none (.row 1 0 [false]) [.v 0,.v 6] 1 <|
(.lt none .inb [.v 1,.v 6] 0 <|
(.lt none (.row 1 0 [false]) [.v 1,.v 6] 1 <|
(.call none 110 [.v 8,.v 9] 1 [] <|
(.lt none .not [.v 10] 1 <|
(.ite (.v 11)
(.leaf .ret [.c (.bool false)] ())
(.lt none (.bin .add) [.v 6,.c (.int .i64 1)] 1 <|
(.leaf .cont [.v 12] ())))))))))
(.leaf (.yield 1) [] ())))) <|
(.leaf .ret [.c (.bool true)] ())))))))
def Nal:Tm Unit :=
(.lt none .len [.v 0] 1 <|
(.lt none .len [.v 1] 1 <|
(.lt none (.bin .neq) [.v 2,.v 3] 1 <|
(.ite (.v 4)
(.leaf .ret [.c (.bool false)] ())
(.lt none .len [.v 0] 1 <|
(.bind 1
(.loop [.c (.int .i64 0)]
(.lt none (.bin .lss) [.v 6,.v 5] 1 <|
(.ite (.v 7)
(.lt none .inb [.v 0,.v 6] 0 <|
(.lt none (.row 1 0 [true]) [.v 0,.v 6] 1 <|
(.lt none .inb [.v 1,.v 6] 0 <|
(.lt none (.row 1 0 [true]) [.v 1,.v 6] 1 <|
(.lt none (.bin .neq) [.v 8,.v 9] 1 <|
(.ite (.v 10)
(.leaf .ret [.c (.bool false)] ())
(.lt none (.bin .add) [.v 6,.c (.int .i64 1)] 1 <|
(.leaf .cont [.v 11] ()))))))))
(.leaf (.yield 1) [] ())))) <|
(.leaf .ret [.c (.bool true)] ())))))))
def Faa:Tm Unit :=
(.call none 26 [.v 0,.v 1] 1 [] <|
(.lt none .not [.v 2] 1 <|
(.ite (.v 3)
(.leaf .ret [.c (.rows 1 []),.c (.bool false)] ())
(.call none 46 [.v 0,.v 1] 1 [] <|
(.leaf .ret [.v 4,.c (.bool true)] ())))))
def Nak:Tm Unit :=
(.call none 26 [.v 0,.v 1] 1 [] <|
(.lt none .not [.v 4] 1 <|
(.lt (some (.v 5,false)) .id [.v 0] 1 <|
(.lt (some (.v 5,false)) .id [.v 2] 1 <|
(.lt (some (.v 5,false)) .id [.v 3] 1 <|
(.call (some (.v 5,false)) 113 [.v 6,.v 7,.v 8] 1 [] <|
(.lt (some (.v 5,false)) .not [.v 9] 1 <|
(.lt none .pick [.v 5,.c (.bool true),.v 10] 1 <|
(.lt (some (.v 11,false)) .id [.v 2] 1 <|
(.lt (some (.v 11,false)) .id [.v 3] 1 <|
(.call (some (.v 11,false)) 53 [.v 0,.v 1,.v 12,.v 13] 10 [] <|
(.lt (some (.v 11,false)) .id [.v 16] 1 <|
(.lt (some (.v 11,false)) (.bin .neq) [.v 24,.c (.int .i64 3)] 1 <|
(.lt none .pick [.v 11,.c (.bool true),.v 25] 1 <|
(.ite (.v 26)
(.leaf .ret [.c (.rows 1 []),.c (.bool false)] ())
(.lt none (.mk 1 2) [.v 2,.v 3] 1 <|
(.call none 52 [.v 0,.v 1,.v 27] 1 [] <|
(.leaf .ret [.v 28,.c (.bool true)] ()))))))))))))))))))
def Naj:Tm Unit :=
(.call none 27 [.v 0] 1 [] <|
(.lt (some (.v 3,true)) .id [.v 1] 1 <|
(.lt (some (.v 3,true)) .id [.v 0] 1 <|
(.lt (some (.v 3,true)) (.bin .sub) [.v 5,.c (.int .i64 1)] 1 <|
(.call (some (.v 3,true)) 35 [.v 4,.c (.int .i64 0),.v 6] 1 [] <|
(.lt none .pick [.v 3,.v 7,.c (.bool false)] 1 <|
(.lt (some (.v 8,true)) .id [.v 2] 1 <|
(.call (some (.v 8,true)) 35 [.v 9,.c (.int .i64 1),.c (.int .i64 6)] 1 [] <|
(.lt none .pick [.v 8,.v 10,.c (.bool false)] 1 <|
(.leaf .ret [.v 11] ()))))))))))
def Ea9:Tm Unit :=
(.lt none .len [.v 0] 1 <|
(.bind 1
(.loop [.c (.int .i64 0)]
(.lt none (.bin .lss) [.v 3,.v 2] 1 <|
(.ite (.v 4)
(.lt none .inb [.v 0,.v 3] 0 <|
(.lt none (.row 1 0 [false]) [.v 0,.v 3] 1 <|
(.call none 110 [.v 1,.v 5] 1 [] <|
(.ite (.v 6)
(.leaf .ret [.c (.bool true)] ())
(.lt none (.bin .add) [.v 3,.c (.int .i64 1)] 1 <|
(.leaf .cont [.v 7] ()))))))
(.leaf (.yield 1) [] ())))) <|
(.leaf .ret [.c (.bool false)] ())))
def Ea8:Tm Unit :=
(.call none 26 [.v 0,.v 1] 1 [] <|
(.lt none .not [.v 4] 1 <|
(.lt (some (.v 5,false)) .id [.v 0] 1 <|
(.lt (some (.v 5,false)) .id [.v 2] 1 <|
(.lt (some (.v 5,false)) .id [.v 3] 1 <|
(.call (some (.v 5,false)) 113 [.v 6,.v 7,.v 8] 1 [] <|
(.lt (some (.v 5,false)) .not [.v 9] 1 <|
(.lt none .pick [.v 5,.c (.bool true),.v 10] 1 <|
(.ite (.v 11)
(.leaf .ret [.c (.int .i64 0),.c (.int .i64 0),.c (.int .i64 0),.c (.int .i64 0),.c (.int .i64 0),.c (.int .i64 0),.c (.int .i64 0),.c (.int .i64 0),.c (.int .i64 0),.c (.rows 1 []),.c (.bool false)] ())
(.call none 53 [.v 0,.v 1,.v 2,.v 3] 10 [] <|
(.leaf .ret [.v 12,.v 13,.v 14,.v 15,.v 16,.v 17,.v 18,.v 19,.v 20,.v 21,.c (.bool true)] ())))))))))))
def Ea7:Tm Unit :=
(.call none 4 [.v 0,.c (.int .i64 0),.c (.int .u64 0)] 5 [] <|
(.call none 117 [.v 3,.v 4,.v 5] 5 [] <|
(.leaf .ret [.v 1,.v 2,.v 6,.v 7] ())))
def Ea6:Tm Unit :=
(.call none 6 [.c (.int .i64 4),.v 0,.v 1,.v 2] 4 [] <|
(.call none 6 [.c (.int .i64 12),.v 4,.v 5,.v 6] 4 [] <|
(.lt none (.bin .quo) [.v 7,.c (.int .i64 11)] 1 <|
(.lt none (.bin .sub) [.v 3,.v 11] 1 <|
(.lt none (.mk 1 9) [.c (.int .i64 1),.c (.int .i64 1),.c (.int .i64 2),.c (.int .i64 2),.c (.int .i64 3),.c (.int .i64 4),.c (.int .i64 6),.c (.int .i64 7),.c (.int .i64 0)] 1 <|
(.call none 23 [.v 13,.v 8,.v 9,.v 10] 4 [] <|
(.leaf .ret [.v 12,.v 14,.v 15,.v 16,.v 17] ())))))))
def Ea5:Tm Unit :=
(.call none 119 [.v 0,.v 1,.v 2,.v 3] 1 [] <|
(.lt none .not [.v 4] 1 <|
(.lt (some (.v 5,false)) .id [.v 2] 1 <|
(.lt (some (.v 5,false)) .id [.v 3] 1 <|
(.call (some (.v 5,false)) 79 [.v 0,.v 1,.v 6,.v 7] 10 [] <|
(.lt (some (.v 5,false)) .id [.v 10] 1 <|
(.lt (some (.v 5,false)) (.bin .neq) [.v 18,.c (.int .i64 3)] 1 <|
(.lt none .pick [.v 5,.c (.bool true),.v 19] 1 <|
(.ite (.v 20)
(.leaf .ret [.c (.rows 1 []),.c (.bool false)] ())
(.call none 77 [.v 0,.v 1,.v 2,.v 3] 1 [] <|
(.leaf .ret [.v 21,.c (.bool true)] ())))))))))))
def Ea4:Tm Unit :=
(.call none 64 [.v 0,.v 1] 1 [] <|
(.lt (some (.v 4,true)) .id [.v 0] 1 <|
(.lt (some (.v 4,true)) .id [.v 2] 1 <|
(.lt (some (.v 4,true)) .id [.v 3] 1 <|
(.call (some (.v 4,true)) 120 [.v 5,.v 6,.v 7] 1 [] <|
(.lt none .pick [.v 4,.v 8,.c (.bool false)] 1 <|
(.leaf .ret [.v 9] ())))))))
def Ea3:Tm Unit :=
(.lt none (.bin .sub) [.v 0,.c (.int .i64 1)] 1 <|
(.call none 67 [.v 1,.c (.int .i64 0),.v 3] 1 [] <|
(.lt (some (.v 4,true)) .id [.v 2] 1 <|
(.call (some (.v 4,true)) 67 [.v 5,.c (.int .i64 1),.c (.int .i64 6)] 1 [] <|
(.lt none .pick [.v 4,.v 6,.c (.bool false)] 1 <|
(.leaf .ret [.v 7] ()))))))
def Ea2:Tm Unit :=
(.call none 3 [.v 0] 2 [] <|
(.leaf .ret [.v 1,.v 2] ()))
def Ea1:Tm Unit :=
(.call none 26 [.v 0,.v 1] 1 [] <|
(.lt none .not [.v 2] 1 <|
(.ite (.v 3)
(.leaf .ret [.c (.bool false),.c (.bool false)] ())
(.call none 123 [.v 0,.v 1] 1 [] <|
(.leaf .ret [.v 4,.c (.bool true)] ())))))
def Ea0:Tm Unit :=
(.call none 46 [.v 0,.v 1] 1 [] <|
(.lt none .len [.v 2] 1 <|
(.bind 1
(.loop [.c (.int .i64 0)]
(.lt none (.bin .lss) [.v 4,.v 3] 1 <|
(.ite (.v 5)
(.lt none .inb [.v 2,.v 4] 0 <|
(.lt none (.row 1 0 [false]) [.v 2,.v 4] 1 <|
(.lt none (.sub 1 false) [.v 2,.c (.int .i64 0),.v 4] 1 <|
(.lt none .len [.v 7] 1 <|
(.bind 3
(.loop [.c (.int .i64 0)]
(.lt none (.bin .lss) [.v 9,.v 8] 1 <|
(.ite (.v 10)
(.lt none .inb [.v 7,.v 9] 0 <|
(.lt none (.row 1 0 [false]) [.v 7,.v 9] 1 <|
(.lt none .inb [.v 6,.c (.int .i64 0)] 0 <|
(.lt none (.row 1 0 [true]) [.v 6,.c (.int .i64 0)] 1 <|
(.lt none .inb [.v 6,.c (.int .i64 1)] 0 <|
(.lt none (.row 1 0 [true]) [.v 6,.c (.int .i64 1)] 1 <|
(.call none 53 [.v 0,.v 1,.v 12,.v 13] 10 [] <|
(.lt none .inb [.v 11,.c (.int .i64 0)] 0 <|
(.lt none (.row 1 0 [true]) [.v 11,.c (.int .i64 0)] 1 <|
(.lt none .inb [.v 11,.c (.int .i64 1)] 0 <|
(.lt none (.row 1 0 [true]) [.v 11,.c (.int .i64 1)] 1 <|
(.call none 53 [.v 0,.v 1,.v 24,.v 25] 10 [] <|
(.call none 124 [.v 17,.v 18,.v 19,.v 20,.v 21,.v 29,.v 30,.v 31,.v 32,.v 33] 1 [] <|
(.lt (some (.v 36,true)) .inb [.v 11,.c (.int .i64 1)] 0 <|
(.lt (some (.v 36,true)) (.row 1 0 [true]) [.v 11,.c (.int .i64 1)] 1 <|
(.lt (some (.v 36,true)) .inb [.v 11,.c (.int .i64 0)] 0 <|
(.lt (some (.v 36,true)) (.row 1 0 [true]) [.v 11,.c (.int .i64 0)] 1 <|
(.lt (some (.v 36,true)) .inb [.v 23,.v 38] 0 <|
(.lt (some (.v 36,true)) (.row 1 0 [true]) [.v 23,.v 38] 1 <|
(.lt (some (.v 36,true)) (.bin .gtr) [.v 37,.v 39] 1 <|
(.lt none .pick [.v 36,.v 40,.c (.bool false)] 1 <|
(.lt (some (.v 41,true)) .inb [.v 6,.c (.int .i64 1)] 0 <|
(.lt (some (.v 41,true)) (.row 1 0 [true]) [.v 6,.c (.int .i64 1)] 1 <|
(.lt (some (.v 41,true)) .inb [.v 6,.c (.int .i64 0)] 0 <|
(.lt (some (.v 41,true)) (.row 1 0 [true]) [.v 6,.c (.int .i64 0)] 1 <|
(.lt (some (.v 41,true)) .inb [.v 35,.v 43] 0 <|
(.lt (some (.v 41,true)) (.row 1 0 [true]) [.v 35,.v 43] 1 <|
(.lt (some (.v 41,true)) (.bin .gtr) [.v 42,.v 44] 1 <|
(.lt none .pick [.v 41,.v 45,.c (.bool false)] 1 <|
(.ite (.v 46)
(.leaf .ret [.c (.bool false)] ())
(.lt none (.bin .add) [.v 9,.c (.int .i64 1)] 1 <|
(.leaf .cont [.v 47] ()))))))))))))))))))))))))))))))))
(.leaf (.yield 3) [] ())))) <|
(.lt none (.bin .add) [.v 4,.c (.int .i64 1)] 1 <|
(.leaf .cont [.v 9] ())))))))
(.leaf (.yield 1) [] ())))) <|
(.leaf .ret [.c (.bool true)] ()))))
def Eaz:Tm Unit :=
(.call none 125 [.v 0,.v 1,.v 2,.v 3,.v 4] 1 [] <|
(.call none 126 [.v 10,.v 5,.v 6,.v 7,.v 8,.v 9] 1 [] <|
(.leaf .ret [.v 11] ())))
def Eay:Tm Unit :=
(.lt none (.bin .eql) [.v 0,.c (.int .i64 1)] 1 <|
(.ite (.v 5)
(.lt none .min [.v 2,.v 3] 1 <|
(.lt none .max [.v 2,.v 3] 1 <|
(.lt none (.mk 1 2) [.v 6,.v 7] 1 <|
(.leaf .ret [.v 8] ()))))
(.lt none (.bin .eql) [.v 0,.c (.int .i64 2)] 1 <|
(.ite (.v 6)
(.lt none (.mk 1 1) [.v 2] 1 <|
(.leaf .ret [.v 7] ()))
(.lt none (.mk 1 0) [] 1 <|
(.leaf .ret [.v 7] ()))))))
def Eax:Tm Unit :=
(.call none 127 [.v 0,.v 1,.v 2,.v 3,.v 4,.v 5] 1 [] <|
(.lt none (.bin .geq) [.v 6,.c (.int .i64 0)] 1 <|
(.leaf .ret [.v 7] ())))
def Pau:Tm Unit :=
(.lt none .len [.v 0] 1 <|
(.bind 1
(.loop [.c (.int .i64 0)]
(.lt none (.bin .lss) [.v 7,.v 6] 1 <|
(.ite (.v 8)
(.lt none .inb [.v 0,.v 7] 0 <|
(.lt none (.row 1 0 [true]) [.v 0,.v 7] 1 <|
(.call none 128 [.v 9,.v 1,.v 2,.v 3,.v 4,.v 5] 1 [] <|
(.ite (.v 10)
(.leaf .ret [.v 7] ())
(.lt none (.bin .add) [.v 7,.c (.int .i64 1)] 1 <|
(.leaf .cont [.v 11] ()))))))
(.leaf (.yield 1) [] ())))) <|
(.leaf .ret [.c (.int .i64 (-1))] ())))
def Pat:Tm Unit :=
(.call none 125 [.v 1,.v 2,.v 3,.v 4,.v 5] 1 [] <|
(.call none 90 [.v 6,.v 0] 1 [] <|
(.leaf .ret [.v 7] ())))
def Pas:Tm Unit :=
(.call none 64 [.v 0,.v 1] 1 [] <|
(.lt none .not [.v 2] 1 <|
(.ite (.v 3)
(.leaf .ret [.c (.bool false),.c (.bool false)] ())
(.call none 130 [.v 0,.v 1] 1 [] <|
(.leaf .ret [.v 4,.c (.bool true)] ())))))
def Gb4:Tm Unit :=
(.call none 76 [.v 0,.v 1] 1 [] <|
(.lt none .len [.v 2] 1 <|
(.bind 1
(.loop [.c (.int .i64 0)]
(.lt none (.bin .lss) [.v 4,.v 3] 1 <|
(.ite (.v 5)
(.lt none .inb [.v 2,.v 4] 0 <|
(.lt none (.row 1 0 [false]) [.v 2,.v 4] 1 <|
(.lt none (.sub 1 false) [.v 2,.c (.int .i64 0),.v 4] 1 <|
(.lt none .len [.v 7] 1 <|
(.bind 3
(.loop [.c (.int .i64 0)]
(.lt none (.bin .lss) [.v 9,.v 8] 1 <|
(.ite (.v 10)
(.lt none .inb [.v 7,.v 9] 0 <|
(.lt none (.row 1 0 [false]) [.v 7,.v 9] 1 <|
(.lt none .inb [.v 11,.c (.int .i64 0)] 0 <|
(.lt none (.row 1 0 [true]) [.v 11,.c (.int .i64 0)] 1 <|
(.lt none .inb [.v 11,.c (.int .i64 1)] 0 <|
(.lt none (.row 1 0 [true]) [.v 11,.c (.int .i64 1)] 1 <|
(.call none 79 [.v 0,.v 1,.v 12,.v 13] 10 [] <|
(.lt none .inb [.v 6,.c (.int .i64 0)] 0 <|
(.lt none (.row 1 0 [true]) [.v 6,.c (.int .i64 0)] 1 <|
(.lt none .inb [.v 6,.c (.int .i64 1)] 0 <|
(.lt none (.row 1 0 [true]) [.v 6,.c (.int .i64 1)] 1 <|
(.call none 79 [.v 0,.v 1,.v 24,.v 25] 10 [] <|
(.call none 12 [.v 17,.v 18,.v 19,.v 20,.v 21,.v 29,.v 30,.v 31,.v 32,.v 33] 1 [] <|
(.lt (some (.v 36,true)) .inb [.v 6,.c (.int .i64 1)] 0 <|
(.lt (some (.v 36,true)) (.row 1 0 [true]) [.v 6,.c (.int .i64 1)] 1 <|
(.lt (some (.v 36,true)) .inb [.v 6,.c (.int .i64 0)] 0 <|
(.lt (some (.v 36,true)) (.row 1 0 [true]) [.v 6,.c (.int .i64 0)] 1 <|
(.lt (some (.v 36,true)) .inb [.v 23,.v 38] 0 <|
(.lt (some (.v 36,true)) (.row 1 0 [true]) [.v 23,.v 38] 1 <|
(.lt (some (.v 36,true)) (.bin .gtr) [.v 37,.v 39] 1 <|
(.lt none .pick [.v 36,.v 40,.c (.bool false)] 1 <|
(.lt (some (.v 41,true)) .inb [.v 11,.c (.int .i64 1)] 0 <|
(.lt (some (.v 41,true)) (.row 1 0 [true]) [.v 11,.c (.int .i64 1)] 1 <|
(.lt (some (.v 41,true)) .inb [.v 11,.c (.int .i64 0)] 0 <|
(.lt (some (.v 41,true)) (.row 1 0 [true]) [.v 11,.c (.int .i64 0)] 1 <|
(.lt (some (.v 41,true)) .inb [.v 35,.v 43] 0 <|
(.lt (some (.v 41,true)) (.row 1 0 [true]) [.v 35,.v 43] 1 <|
(.lt (some (.v 41,true)) (.bin .gtr) [.v 42,.v 44] 1 <|
(.lt none .pick [.v 41,.v 45,.c (.bool false)] 1 <|
(.ite (.v 46)
(.leaf .ret [.c (.bool false)] ())
(.lt none (.bin .add) [.v 9,.c (.int .i64 1)] 1 <|
(.leaf .cont [.v 47] ()))))))))))))))))))))))))))))))))
(.leaf (.yield 3) [] ())))) <|
(.lt none (.bin .add) [.v 4,.c (.int .i64 1)] 1 <|
(.leaf .cont [.v 9] ())))))))
(.leaf (.yield 1) [] ())))) <|
(.leaf .ret [.c (.bool true)] ()))))
theorem Sbr:∀ n,qM Tryz.prog (xV [(56,.tm Vax)]) n 56 Dbw:=fun n=>contracts Iau (by kernel_rfl) (Cav (List.forall_mem_cons.2 ⟨Qa5 (E:=⟨bW tiL,[(56,Dbw)],0,0,false,false,[],[]⟩) Tryz.func188 (by kernel_rfl) (tm:=Vax) (by kernel_rfl) (by kernel_rfl),List.forall_mem_nil _⟩)) n 56 Dbw (by simp)
def Rbf:Go.Shelf.Ren:=⟨fun|41=>188|n=>n,fun|4=>4|22=>45|23=>3|n=>n,fun n=>n⟩
theorem Pb6:Go.Proofs.SlLaysE0.n41 Tryz.prog Rbf:={ mixed:=by kernel_rfl,f41:=⟨Tryz.f188.name,by kernel_rfl,Tryz.func188.trans (congrArg some (by kernel_rfl))⟩,t4:=Tryz.underlying4,a4:=Tryz.isAgg4,z4:=Tryz.sizeOf4,v4:=Tryz.zeroValue4,t22:=Tryz.underlying45,a22:=Tryz.isAgg45,z22:=Tryz.sizeOf45,v22:=Tryz.zeroValue45 }
noncomputable def Sba:List D → Option (List D):=Bbg 1 (xV [(56,.tm Vax)]) 56

noncomputable def T:Nat → Ent:=xV [(0,.tm tm0),(1,.tm tm1),(2,.tm tm2),(3,.tm tm3),(4,.tm tm4),(5,.tm tm5),(6,.tm tm6),(7,.tm tm7),(8,.tm tm8),(9,.tm tm9),(10,.tm Za8),(11,.tm Vay),(12,.tm Za7),(13,.tm Za6),(14,.tm Za5),(15,.tm Za4),(16,.tm Za3),(17,.tm Za2),(18,.tm Za1),(19,.tm Za0),(20,.tm Zaz),(21,.tm Zay),(22,.tm Zax),(23,.tm Zaw),(24,.tm Zav),(25,.tm Zau),(26,.tm Zat),(27,.tm Zas),(28,.tm Zar),(29,.tm Zaq),(30,.tm Zap),(31,.tm Zao),(32,.tm Zan),(33,.tm Zam),(34,.tm Zal),(35,.tm Zak),(36,.tm Zaj),(37,.tm Zai),(38,.tm Zah),(39,.tm Zag),(40,.tm Zaf),(41,.tm Zae),(42,.tm Zad),(43,.tm Zac),(44,.tm Zab),(45,.tm Zaa),(46,.tm Ya9),(47,.tm Ya8),(48,.tm Ya7),(49,.tm Ya6),(50,.tm Cb6),(51,.tm Ya5),(52,.tm Cb5),(53,.tm Ya4),(54,.tm Ya3),(55,.tm Ya2),(56,.ext Sba),(57,.tm Ya1),(58,.tm Ya0),(59,.tm Yaz),(60,.tm Yay),(61,.tm Yax),(62,.ext Aav),(63,.tm Yaw),(64,.tm Yav),(65,.tm Yau),(66,.tm Yat),(67,.tm Yas),(68,.tm Yar),(69,.tm Yaq),(70,.tm Yap),(71,.tm Yao),(72,.tm Yan),(73,.tm Cb4),(74,.tm Gbw),(75,.tm Gb3),(76,.tm Lb5),(77,.tm Gbv),(78,.tm Gb2),(79,.tm Gb1),(80,.tm Yam),(81,.tm Yal),(82,.tm Yak),(83,.tm Yaj),(84,.tm Yai),(85,.tm Yah),(86,.tm Yag),(87,.tm Yaf),(88,.tm Yae),(89,.tm Yad),(90,.tm Vaw),(91,.tm Yac),(92,.tm Yab),(93,.tm Vav),(94,.tm Yaa),(95,.tm Xa9),(96,.tm Gbu),(97,.ext (Fbx 1)),(98,.ext Dae),(99,.tm Gbr),(100,.tm Faj),(101,.tm Fai),(102,.tm Fah),(103,.tm Fag),(104,.tm Faf),(105,.tm Fae),(106,.tm Fad),(107,.tm Fac),(108,.tm Fab),(109,.tm Nam),(110,.tm Nal),(111,.tm Faa),(112,.tm Nak),(113,.tm Naj),(114,.tm Ea9),(115,.tm Ea8),(116,.tm Ea7),(117,.tm Ea6),(118,.tm Ea5),(119,.tm Ea4),(120,.tm Ea3),(121,.tm Ea2),(122,.tm Ea1),(123,.tm Ea0),(124,.tm Eaz),(125,.tm Eay),(126,.tm Eax),(127,.tm Pau),(128,.tm Pat),(129,.tm Pas),(130,.tm Gb4)]
abbrev K:=Nae Tryz.prog T (bW tiL) sigs
theorem o56:Nae Tryz.prog T (bW tiL) sigs 56 Dbw:=Maw (m:=98) Pb6 rfl (by kernel_rfl) Tryz.sizeOf3 Sbr rfl
def Tryz.laysF110_ren:Go.Shelf.Ren:=⟨fun|6=>110|15=>161|14=>160|28=>197|29=>198|20=>189|21=>190|22=>191|23=>192|24=>193|25=>194|26=>195|27=>196|46=>214|47=>215|48=>216|49=>217|50=>218|57=>231|n=>n,fun|22=>26|24=>45|25=>132|3=>3|39=>175|0=>0|53=>199|55=>95|4=>4|46=>192|45=>191|50=>196|5=>5|9=>9|66=>210|70=>214|76=>225|77=>99|n=>n,fun|n=>n⟩
theorem Tryz.laysF110:Go.Proofs.SlLaysF.n6 Tryz.prog Tryz.laysF110_ren:={
  mixed:=by kernel_rfl
  f6:=⟨Tryz.f110.name,by decide,Tryz.func110.trans (congrArg some (by kernel_rfl))⟩
  f14:=⟨Tryz.f160.name,by decide,Tryz.func160.trans (congrArg some (by kernel_rfl))⟩
  f15:=Tryz.func161.trans (congrArg some (by kernel_rfl))
  f20:=⟨Tryz.f189.name,by decide,Tryz.func189.trans (congrArg some (by kernel_rfl))⟩
  f21:=⟨Tryz.f190.name,by decide,Tryz.func190.trans (congrArg some (by kernel_rfl))⟩
  f22:=⟨Tryz.f191.name,by decide,Tryz.func191.trans (congrArg some (by kernel_rfl))⟩
  f23:=⟨Tryz.f192.name,by decide,Tryz.func192.trans (congrArg some (by kernel_rfl))⟩
  f24:=⟨Tryz.f193.name,by decide,Tryz.func193.trans (congrArg some (by kernel_rfl))⟩
  f25:=⟨Tryz.f194.name,by decide,Tryz.func194.trans (congrArg some (by kernel_rfl))⟩
  f26:=⟨Tryz.f195.name,by decide,Tryz.func195.trans (congrArg some (by kernel_rfl))⟩
  f27:=⟨Tryz.f196.name,by decide,Tryz.func196.trans (congrArg some (by kernel_rfl))⟩
  f28:=Tryz.func197.trans (congrArg some (by kernel_rfl))
  f29:=Tryz.func198.trans (congrArg some (by kernel_rfl))
  f46:=⟨Tryz.f214.name,by decide,Tryz.func214.trans (congrArg some (by kernel_rfl))⟩
  f47:=Tryz.func215.trans (congrArg some (by kernel_rfl))
  f48:=Tryz.func216.trans (congrArg some (by kernel_rfl))
  f49:=⟨Tryz.f217.name,by decide,Tryz.func217.trans (congrArg some (by kernel_rfl))⟩
  f50:=⟨Tryz.f218.name,by decide,Tryz.func218.trans (congrArg some (by kernel_rfl))⟩
  f57:=⟨Tryz.f231.name,by decide,Tryz.func231.trans (congrArg some (by kernel_rfl))⟩
  t0:=Tryz.underlying0
  a0:=Tryz.isAgg0
  z0:=Tryz.sizeOf0
  v0:=Tryz.zeroValue0
  t3:=Tryz.underlying3
  a3:=Tryz.isAgg3
  z3:=Tryz.sizeOf3
  v3:=Tryz.zeroValue3
  t4:=Tryz.underlying4
  a4:=Tryz.isAgg4
  z4:=Tryz.sizeOf4
  v4:=Tryz.zeroValue4
  t5:=Tryz.underlying5
  a5:=Tryz.isAgg5
  z5:=Tryz.sizeOf5
  v5:=Tryz.zeroValue5
  t9:=Tryz.underlying9
  a9:=Tryz.isAgg9
  z9:=Tryz.sizeOf9
  v9:=Tryz.zeroValue9
  t22:=Tryz.underlying26
  a22:=Tryz.isAgg26
  z22:=Tryz.sizeOf26
  v22:=Tryz.zeroValue26
  a24:=Tryz.isAgg45
  z24:=Tryz.sizeOf45
  t25:=Tryz.underlying132
  a25:=Tryz.isAgg132
  z25:=Tryz.sizeOf132
  v25:=Tryz.zeroValue132
  t39:=Tryz.underlying175
  a39:=Tryz.isAgg175
  z39:=Tryz.sizeOf175
  v39:=Tryz.zeroValue175
  t45:=Tryz.underlying191
  a45:=Tryz.isAgg191
  z45:=Tryz.sizeOf191
  v45:=Tryz.zeroValue191
  t46:=Tryz.underlying192
  a46:=Tryz.isAgg192
  z46:=Tryz.sizeOf192
  v46:=Tryz.zeroValue192
  t50:=Tryz.underlying196
  a50:=Tryz.isAgg196
  z50:=Tryz.sizeOf196
  v50:=Tryz.zeroValue196
  t53:=Tryz.underlying199
  a53:=Tryz.isAgg199
  z53:=Tryz.sizeOf199
  v53:=Tryz.zeroValue199
  t55:=Tryz.underlying95
  a55:=Tryz.isAgg95
  z55:=Tryz.sizeOf95
  v55:=Tryz.zeroValue95
  t66:=Tryz.underlying210
  a66:=Tryz.isAgg210
  z66:=Tryz.sizeOf210
  v66:=Tryz.zeroValue210
  t70:=Tryz.underlying214
  a70:=Tryz.isAgg214
  z70:=Tryz.sizeOf214
  v70:=Tryz.zeroValue214
  t76:=Tryz.underlying225
  a76:=Tryz.isAgg225
  z76:=Tryz.sizeOf225
  v76:=Tryz.zeroValue225
  t77:=Tryz.underlying99
  a77:=Tryz.isAgg99
  z77:=Tryz.sizeOf99
  v77:=Tryz.zeroValue99 }
def Tryz.laysF170_ren:Go.Shelf.Ren:=⟨fun|6=>170|15=>161|14=>208|28=>197|29=>198|20=>221|21=>222|22=>223|23=>224|24=>225|25=>226|26=>227|27=>228|46=>232|47=>215|48=>216|49=>233|50=>234|57=>235|n=>n,fun|22=>45|24=>3|25=>176|3=>3|39=>175|0=>0|53=>199|55=>95|4=>4|46=>192|45=>191|50=>196|5=>5|9=>9|66=>210|70=>214|76=>225|77=>99|n=>n,fun|n=>n⟩
theorem Tryz.laysF170:Go.Proofs.SlLaysF.n6 Tryz.prog Tryz.laysF170_ren:={
  mixed:=by kernel_rfl
  f6:=⟨Tryz.f170.name,by decide,Tryz.func170.trans (congrArg some (by kernel_rfl))⟩
  f14:=⟨Tryz.f208.name,by decide,Tryz.func208.trans (congrArg some (by kernel_rfl))⟩
  f15:=Tryz.func161.trans (congrArg some (by kernel_rfl))
  f20:=⟨Tryz.f221.name,by decide,Tryz.func221.trans (congrArg some (by kernel_rfl))⟩
  f21:=⟨Tryz.f222.name,by decide,Tryz.func222.trans (congrArg some (by kernel_rfl))⟩
  f22:=⟨Tryz.f223.name,by decide,Tryz.func223.trans (congrArg some (by kernel_rfl))⟩
  f23:=⟨Tryz.f224.name,by decide,Tryz.func224.trans (congrArg some (by kernel_rfl))⟩
  f24:=⟨Tryz.f225.name,by decide,Tryz.func225.trans (congrArg some (by kernel_rfl))⟩
  f25:=⟨Tryz.f226.name,by decide,Tryz.func226.trans (congrArg some (by kernel_rfl))⟩
  f26:=⟨Tryz.f227.name,by decide,Tryz.func227.trans (congrArg some (by kernel_rfl))⟩
  f27:=⟨Tryz.f228.name,by decide,Tryz.func228.trans (congrArg some (by kernel_rfl))⟩
  f28:=Tryz.func197.trans (congrArg some (by kernel_rfl))
  f29:=Tryz.func198.trans (congrArg some (by kernel_rfl))
  f46:=⟨Tryz.f232.name,by decide,Tryz.func232.trans (congrArg some (by kernel_rfl))⟩
  f47:=Tryz.func215.trans (congrArg some (by kernel_rfl))
  f48:=Tryz.func216.trans (congrArg some (by kernel_rfl))
  f49:=⟨Tryz.f233.name,by decide,Tryz.func233.trans (congrArg some (by kernel_rfl))⟩
  f50:=⟨Tryz.f234.name,by decide,Tryz.func234.trans (congrArg some (by kernel_rfl))⟩
  f57:=⟨Tryz.f235.name,by decide,Tryz.func235.trans (congrArg some (by kernel_rfl))⟩
  t0:=Tryz.underlying0
  a0:=Tryz.isAgg0
  z0:=Tryz.sizeOf0
  v0:=Tryz.zeroValue0
  t3:=Tryz.underlying3
  a3:=Tryz.isAgg3
  z3:=Tryz.sizeOf3
  v3:=Tryz.zeroValue3
  t4:=Tryz.underlying4
  a4:=Tryz.isAgg4
  z4:=Tryz.sizeOf4
  v4:=Tryz.zeroValue4
  t5:=Tryz.underlying5
  a5:=Tryz.isAgg5
  z5:=Tryz.sizeOf5
  v5:=Tryz.zeroValue5
  t9:=Tryz.underlying9
  a9:=Tryz.isAgg9
  z9:=Tryz.sizeOf9
  v9:=Tryz.zeroValue9
  t22:=Tryz.underlying45
  a22:=Tryz.isAgg45
  z22:=Tryz.sizeOf45
  v22:=Tryz.zeroValue45
  a24:=Tryz.isAgg3
  z24:=Tryz.sizeOf3
  t25:=Tryz.underlying176
  a25:=Tryz.isAgg176
  z25:=Tryz.sizeOf176
  v25:=Tryz.zeroValue176
  t39:=Tryz.underlying175
  a39:=Tryz.isAgg175
  z39:=Tryz.sizeOf175
  v39:=Tryz.zeroValue175
  t45:=Tryz.underlying191
  a45:=Tryz.isAgg191
  z45:=Tryz.sizeOf191
  v45:=Tryz.zeroValue191
  t46:=Tryz.underlying192
  a46:=Tryz.isAgg192
  z46:=Tryz.sizeOf192
  v46:=Tryz.zeroValue192
  t50:=Tryz.underlying196
  a50:=Tryz.isAgg196
  z50:=Tryz.sizeOf196
  v50:=Tryz.zeroValue196
  t53:=Tryz.underlying199
  a53:=Tryz.isAgg199
  z53:=Tryz.sizeOf199
  v53:=Tryz.zeroValue199
  t55:=Tryz.underlying95
  a55:=Tryz.isAgg95
  z55:=Tryz.sizeOf95
  v55:=Tryz.zeroValue95
  t66:=Tryz.underlying210
  a66:=Tryz.isAgg210
  z66:=Tryz.sizeOf210
  v66:=Tryz.zeroValue210
  t70:=Tryz.underlying214
  a70:=Tryz.isAgg214
  z70:=Tryz.sizeOf214
  v70:=Tryz.zeroValue214
  t76:=Tryz.underlying225
  a76:=Tryz.isAgg225
  z76:=Tryz.sizeOf225
  v76:=Tryz.zeroValue225
  t77:=Tryz.underlying99
  a77:=Tryz.isAgg99
  z77:=Tryz.sizeOf99
  v77:=Tryz.zeroValue99 }
def Tryz.laysD207_ren:Go.Shelf.Ren:=⟨fun|45=>207|n=>n,fun|22=>26|23=>45|3=>3|4=>4|0=>0|n=>n,fun|n=>n⟩
theorem Tryz.laysD207:Go.Proofs.SlLaysE0.n45 Tryz.prog Tryz.laysD207_ren:={
  mixed:=by kernel_rfl
  f45:=⟨Tryz.f207.name,by decide,Tryz.func207.trans (congrArg some (by kernel_rfl))⟩
  t0:=Tryz.underlying0
  a0:=Tryz.isAgg0
  z0:=Tryz.sizeOf0
  v0:=Tryz.zeroValue0
  t3:=Tryz.underlying3
  a3:=Tryz.isAgg3
  z3:=Tryz.sizeOf3
  v3:=Tryz.zeroValue3
  t4:=Tryz.underlying4
  a4:=Tryz.isAgg4
  z4:=Tryz.sizeOf4
  v4:=Tryz.zeroValue4
  t22:=Tryz.underlying26
  a22:=Tryz.isAgg26
  z22:=Tryz.sizeOf26
  v22:=Tryz.zeroValue26 }
open Go.RowKit in
set_option maxHeartbeats 2000000 in
theorem Ebl (x:Int)(w:World):Calls Tryz.prog 199 #[.int .i64 x] w fun e w'=>e=.returned (.bool false) ∧ w'=w:=by
  go_enter Tryz.func199,Tryz.ntmps199
  go_wp2
  go_ret
  exact⟨by simp,rfl⟩
open Go.RowKit in
set_option maxHeartbeats 2000000 in
theorem Pad (x y:Int)(w:World):Calls Tryz.prog 162 #[.int .i64 x,.int .i64 y] w fun e w'=>e=.returned (.int .i64 (if x<y then -1 else if y<x then 1 else 0)) ∧ w'=w:=by
  rcases Ub7 x y with h|h|h
  · go_enter Tryz.func162,Tryz.ntmps162
    go_wp2_with (go_at_call 199;refine (Ebl _ _).mono ?_;rintro e w' ⟨rfl,hw⟩;rw[hw])
    go_ret
    exact⟨by simp[h],rfl⟩
  · subst h
    go_enter Tryz.func162,Tryz.ntmps162
    go_wp2_with (go_at_call 199;refine (Ebl _ _).mono ?_;rintro e w' ⟨rfl,hw⟩;rw[hw])
    go_ret
    exact⟨by simp,rfl⟩
  · have h2:¬ x<y:=by omega
    go_enter Tryz.func162,Tryz.ntmps162
    go_wp2_with (go_at_call 199;refine (Ebl _ _).mono ?_;rintro e w' ⟨rfl,hw⟩;rw[hw])
    go_ret
    exact⟨by simp[h,h2],rfl⟩
open Go.RowKit in
set_option maxHeartbeats 2000000 in
theorem Uaa (a b:Addr)(ca cb:Nat)(x y:Int×Int)(w:World)(h1:w.cell? a=some (.int .i64 x.1))(h2:w.cell? (a.add 1)=some (.int .i64 x.2))(h3:w.cell? b=some (.int .i64 y.1))(h4:w.cell? (b.add 1)=some (.int .i64 y.2)) :
    Calls Tryz.prog 112 #[.slice (some a) 2 ca,.slice (some b) 2 cb] w fun e w'=>e=.returned (.int .i64 (Aal x y)) ∧ w'=w:=by
  obtain⟨x1,x2⟩:=x
  obtain⟨y1,y2⟩:=y
  replace h2:w.cell? ⟨a.block,a.off+1,none⟩=some (.int .i64 x2):=h2
  replace h4:w.cell? ⟨b.block,b.off+1,none⟩=some (.int .i64 y2):=h4
  dsimp only at h1 h3
  rcases Ub7 x1 y1 with h|h|h
  · have e0:Aal (x1,x2) (y1,y2)=-1:=by simp[Aal,ltQ,h]
    have hc:=Pad x1 y1
    rw[if_pos h]at hc
    go_enter Tryz.func112,Tryz.ntmps112
    go_wp2
    refine wp_loop_rounds 1 ?_
    rw[rounds_succ]
    go_wp2_with (go_at_call 162;refine (hc _).mono ?_;rintro e w' ⟨rfl,hw⟩;rw[hw])
    go_ret
    exact⟨by rw[e0];rfl,rfl⟩
  · subst h
    have hc:=Pad x1 x1
    rw[if_neg (by omega),if_neg (by omega)]at hc
    rcases Ub7 x2 y2 with h|h|h
    · have e0:Aal (x1,x2) (x1,y2)=-1:=by simp[Aal,ltQ,h]
      have hd:=Pad x2 y2
      rw[if_pos h]at hd
      go_enter Tryz.func112,Tryz.ntmps112
      go_wp2
      refine wp_loop_rounds 2 ?_
      rw[rounds_succ]
      go_wp2_with (go_at_call 162;refine (hc _).mono ?_;rintro e w' ⟨rfl,hw⟩;rw[hw])
      rw[rounds_succ]
      go_wp2_with (go_at_call 162;refine (hd _).mono ?_;rintro e w' ⟨rfl,hw⟩;rw[hw])
      go_ret
      exact⟨by rw[e0];rfl,rfl⟩
    · subst h
      have e0:Aal (x1,x2) (x1,x2)=0:=by simp[Aal,ltQ]
      have hd:=Pad x2 x2
      rw[if_neg (by omega),if_neg (by omega)]at hd
      go_enter Tryz.func112,Tryz.ntmps112
      go_wp2
      refine wp_loop_rounds 3 ?_
      rw[rounds_succ]
      go_wp2_with (go_at_call 162;refine (hc _).mono ?_;rintro e w' ⟨rfl,hw⟩;rw[hw])
      rw[rounds_succ]
      go_wp2_with (go_at_call 162;refine (hd _).mono ?_;rintro e w' ⟨rfl,hw⟩;rw[hw])
      rw[rounds_succ]
      go_wp2
      go_ret
      exact⟨by rw[e0];rfl,rfl⟩
    · have e0:Aal (x1,x2) (x1,y2)=1:=by simp[Aal,ltQ,h];omega
      have hd:=Pad x2 y2
      rw[if_neg (by omega),if_pos h]at hd
      go_enter Tryz.func112,Tryz.ntmps112
      go_wp2
      refine wp_loop_rounds 2 ?_
      rw[rounds_succ]
      go_wp2_with (go_at_call 162;refine (hc _).mono ?_;rintro e w' ⟨rfl,hw⟩;rw[hw])
      rw[rounds_succ]
      go_wp2_with (go_at_call 162;refine (hd _).mono ?_;rintro e w' ⟨rfl,hw⟩;rw[hw])
      go_ret
      exact⟨by rw[e0];rfl,rfl⟩
  · have e0:Aal (x1,x2) (y1,y2)=1:=by simp[Aal,ltQ,h];omega
    have hc:=Pad x1 y1
    rw[if_neg (by omega),if_pos h]at hc
    go_enter Tryz.func112,Tryz.ntmps112
    go_wp2
    refine wp_loop_rounds 1 ?_
    rw[rounds_succ]
    go_wp2_with (go_at_call 162;refine (hc _).mono ?_;rintro e w' ⟨rfl,hw⟩;rw[hw])
    go_ret
    exact⟨by rw[e0];rfl,rfl⟩
open Go.RowKit in
set_option maxHeartbeats 2000000 in
theorem Fa9:Hae Tryz.prog 111:=by
  intro a b ca cb x y w h1 h2 h3 h4
  have hc:=fun W=>Uaa a b ca cb x y W
  go_enter Tryz.func111,Tryz.ntmps111
  go_wp2_with (go_at_call 112;refine (hc _ h1 h2 h3 h4).mono ?_;rintro e w' ⟨rfl,hw⟩;rw[hw])
  go_ret
  exact⟨rfl,0,#[],by rw[Go.Sort.grow_empty];rfl⟩
open Go.RowKit in
set_option maxHeartbeats 2000000 in
theorem Lat:Nac Tryz.prog 171:=by
  intro p ad n c x y kx ky w h1 h2 h3 h4 h5 h6 h7
  have e1:((x.toNat:Nat):Int)=x:=by omega
  have e2:((y.toNat:Nat):Int)=y:=by omega
  generalize x.toNat=X at *
  generalize y.toNat=Y at *
  subst e1 e2
  have h8:(X:Int)<n:=by omega
  have h9:(Y:Int)<n:=by omega
  go_enter Tryz.func171,Tryz.ntmps171
  go_wp2
  go_region
  go_wp2
  go_ret
  have e3:IntKind.i64.wrap (kx-ky)=Go.RowKit.wrap64 (kx-ky):=IntWalk.i64_left _
  rw[e3]
  exact⟨rfl,1,#[],by rw[Go.Sort.grow_empty];rfl⟩
theorem o62:K 62 Jb1:=Ka5 Tryz.laysF110 rfl Tryz.func111 (by kernel_rfl) rfl Fa9 rfl
theorem o98:K 98 Ib7:=Ka6 Tryz.laysF170 rfl Tryz.func171 (by kernel_rfl) rfl Lat rfl
theorem o97:K 97 Ib8:=Iah (m:=98) Tryz.laysD207 rfl (by kernel_rfl) Tryz.sizeOf45 (by kernel_rfl) rfl
theorem o0:K 0 sg0:=fnK (E:=⟨bW tiL,sigs,0,0,false,false,[],[(22,[(504,0,0,0)],[3,15,18,63,393,396,399,462,465,480,486,489,492,498,501,504,19],113,[1,4,7,10,13,16,19]),(14,[(399,0,0,0)],[3,15,18,63,393,396,399,19],114,[1,4,7,10,13,16,19])]⟩) (tm:=tm0) Tryz.func6 (by kernel_rfl)
theorem o1:K 1 sg1:=fnK (E:=E0) (tm:=tm1) Tryz.func23 (by kernel_rfl)
theorem o2:K 2 sg2:=fnK (E:=E0) (tm:=tm2) Tryz.func24 (by kernel_rfl)
theorem o3:K 3 sg3:=fnK (E:=E0) (tm:=tm3) Tryz.func69 (by kernel_rfl)
theorem o4:K 4 sg4:=fnK (E:=E0) (tm:=tm4) Tryz.func74 (by kernel_rfl)
theorem o5:K 5 sg5:=fnK (E:=E0) (tm:=tm5) Tryz.func127 (by kernel_rfl)
theorem o6:K 6 sg6:=fnK (E:=E0) (tm:=tm6) Tryz.func86 (by kernel_rfl)
theorem o7:K 7 sg7:=fnK (E:=E0) (tm:=tm7) Tryz.func141 (by kernel_rfl)
theorem o8:K 8 sg8:=fnK (E:=E0) (tm:=tm8) Tryz.func128 (by kernel_rfl)
theorem o9:K 9 sg9:=fnK (E:=E0) (tm:=tm9) Tryz.func85 (by kernel_rfl)
theorem o10:K 10 Lbg:=fnK (E:=⟨bW tiL,sigs,0,0,false,false,[],[(6,[(81,0,0,0),(19,0,0,0),(19,1,2,99)],[6,9,15,24,27,30,54,57,60,75,78,81,1,4,7,19],13,[63]),(3,[(60,0,0,0),(19,0,0,0),(19,1,2,99)],[6,9,15,24,27,54,57,60,1,4,7,19],18,[0])]⟩) (tm:=Za8) Tryz.func129 (by kernel_rfl)
theorem o11:K 11 Lbf:=fnK (E:=E0) (tm:=Vay) Tryz.func96 (by kernel_rfl)
theorem o12:K 12 Lbe:=fnK (E:=E0) (tm:=Za7) Tryz.func89 (by kernel_rfl)
theorem o13:K 13 Lbd:=fnK (E:=E0) (tm:=Za6) Tryz.func143 (by kernel_rfl)
theorem o14:K 14 Lbc:=fnK (E:=E0) (tm:=Za5) Tryz.func124 (by kernel_rfl)
theorem o15:K 15 Lbb:=fnK (E:=E0) (tm:=Za4) Tryz.func144 (by kernel_rfl)
theorem o16:K 16 Lba:=fnK (E:=E0) (tm:=Za3) Tryz.func172 (by kernel_rfl)
theorem o17:K 17 Kb9:=fnK (E:=E0) (tm:=Za2) Tryz.func130 (by kernel_rfl)
theorem o18:K 18 Kb8:=fnK (E:=⟨bW tiL,sigs,0,0,false,false,[],[(6,[(63,0,0,0),(16,1,2,99)],[6,9,12,36,39,42,57,60,63,1,4,16],177,[546]),(3,[(42,0,0,0),(16,1,2,99)],[6,9,36,39,42,1,4,16],180,[0])]⟩) (tm:=Za1) Tryz.func120 (by kernel_rfl)
theorem o19:K 19 Kb7:=fnK (E:=E0) (tm:=Za0) Tryz.func97 (by kernel_rfl)
theorem o20:K 20 Kb6:=fnK (E:=E0) (tm:=Zaz) Tryz.func153 (by kernel_rfl)
theorem o21:K 21 Kb5:=fnK (E:=E0) (tm:=Zay) Tryz.func185 (by kernel_rfl)
theorem o22:K 22 Kb4:=fnK (E:=⟨bW tiL,sigs,0,0,false,false,[],[(7,[(18,0,0,0),(1,0,3,0),(1,1,0,0),(1,2,0,0),(25,1,2,99)],[177,0,6,9,12,15,18,42,45,1,4,25],193,[1,624]),(4,[(45,0,0,0),(1,0,3,0),(1,1,0,0),(1,2,0,0),(25,1,2,99)],[177,0,6,9,12,42,45,1,4,25],202,[2,3])]⟩) (tm:=Zax) Tryz.func131 (by kernel_rfl)
theorem o23:K 23 Kb3:=fnK (E:=E0) (tm:=Zaw) Tryz.func132 (by kernel_rfl)
theorem o24:K 24 Kb2:=fnK (E:=E0) (tm:=Zav) Tryz.func173 (by kernel_rfl)
theorem o25:K 25 Kb1:=fnK (E:=E0) (tm:=Zau) Tryz.func20 (by kernel_rfl)
theorem o26:K 26 Kb0:=fnK (E:=E0) (tm:=Zat) Tryz.func58 (by kernel_rfl)
theorem o27:K 27 Kbz:=fnK (E:=E0) (tm:=Zas) Tryz.func78 (by kernel_rfl)
theorem o28:K 28 Kby:=fnK (E:=E0) (tm:=Zar) Tryz.func101 (by kernel_rfl)
theorem o29:K 29 Kbx:=fnK (E:=E0) (tm:=Zaq) Tryz.func155 (by kernel_rfl)
theorem o30:K 30 Kbw:=fnK (E:=E0) (tm:=Zap) Tryz.func102 (by kernel_rfl)
theorem o31:K 31 Kbv:=fnK (E:=E0) (tm:=Zao) Tryz.func103 (by kernel_rfl)
theorem o32:K 32 Kbu:=fnK (E:=E0) (tm:=Zan) Tryz.func156 (by kernel_rfl)
theorem o33:K 33 Kbt:=fnK (E:=E0) (tm:=Zam) Tryz.func104 (by kernel_rfl)
theorem o34:K 34 Kbs:=fnK (E:=E0) (tm:=Zal) Tryz.func80 (by kernel_rfl)
theorem o35:K 35 Kbr:=fnK (E:=E0) (tm:=Zak) Tryz.func105 (by kernel_rfl)
theorem o36:K 36 Kbq:=fnK (E:=E0) (tm:=Zaj) Tryz.func134 (by kernel_rfl)
theorem o37:K 37 Kbp:=fnK (E:=E0) (tm:=Zai) Tryz.func178 (by kernel_rfl)
theorem o38:K 38 Kbo:=fnK (E:=E0) (tm:=Zah) Tryz.func135 (by kernel_rfl)
theorem o39:K 39 Kbn:=fnK (E:=E0) (tm:=Zag) Tryz.func174 (by kernel_rfl)
theorem o40:K 40 Kbm:=fnK (E:=E0) (tm:=Zaf) Tryz.func209 (by kernel_rfl)
theorem o41:K 41 Kbl:=fnK (E:=E0) (tm:=Zae) Tryz.func179 (by kernel_rfl)
theorem o42:K 42 Kbk:=fnK (E:=E0) (tm:=Zad) Tryz.func107 (by kernel_rfl)
theorem o43:K 43 Kbj:=fnK (E:=E0) (tm:=Zac) Tryz.func136 (by kernel_rfl)
theorem o44:K 44 Kbi:=fnK (E:=E0) (tm:=Zab) Tryz.func123 (by kernel_rfl)
theorem o45:K 45 Kbh:=fnK (E:=E0) (tm:=Zaa) Tryz.func66 (by kernel_rfl)
theorem o46:K 46 Kbg:=fnK (E:=E0) (tm:=Ya9) Tryz.func73 (by kernel_rfl)
theorem o47:K 47 Kbf:=fnK (E:=⟨bW tiL,sigs,0,0,false,false,[],[(5,[(54,0,0,0),(1,0,2,99)],[93,3,12,27,30,33,48,51,54,1,4],1,[18]),(2,[(33,0,0,0),(1,0,2,99)],[93,3,27,30,33,1,4],4,[0])]⟩) (tm:=Ya8) Tryz.func125 (by kernel_rfl)
theorem o48:K 48 Kbe:=fnK (E:=E0) (tm:=Ya7) Tryz.func126 (by kernel_rfl)
theorem o49:K 49 Kbd:=fnK (E:=⟨bW tiL,sigs,0,0,false,true,[],[]⟩) (tm:=Ya6) Tryz.func118 (by kernel_rfl)
theorem o50:K 50 Kbc:=fnK (E:=E0) (tm:=Cb6) Tryz.func139 (by kernel_rfl)
theorem o51:K 51 Kbb:=fnK (E:=E0) (tm:=Ya5) Tryz.func119 (by kernel_rfl)
theorem o52:K 52 Kba:=fnK (E:=⟨bW tiL,sigs,0,0,false,false,[],[(6,[(15,0,2,1),(18,0,2,1),(21,0,2,1),(99,0,3,0),(105,0,0,0)],[6,15,18,21,99,102,105,1],121,[1023,1026,1029,1561,1658]),(3,[(15,0,2,1),(18,0,2,1),(21,0,2,1)],[6,15,18,21,1],338,[0,3,6])]⟩) (tm:=Cb5) Tryz.func61 (by kernel_rfl)
theorem o53:K 53 Jb9:=fnK (E:=E0) (tm:=Ya4) Tryz.func60 (by kernel_rfl)
theorem o54:K 54 Jb8:=fnK (E:=E0) (tm:=Ya3) Tryz.func106 (by kernel_rfl)
theorem o55:K 55 Jb7:=fnK (E:=E0) (tm:=Ya2) Tryz.func157 (by kernel_rfl)
theorem o57:K 57 Jb6:=fnK (E:=⟨bW tiL,sigs,0,0,false,false,[],[(6,[(9,0,2,99),(18,0,0,0)],[9,12,15,18,27,30,33,1],3,[21]),(3,[(9,0,2,99),(33,0,0,0)],[9,27,30,33,1],6,[0])]⟩) (tm:=Ya1) Tryz.func108 (by kernel_rfl)
theorem o58:K 58 Jb5:=fnK (E:=E0) (tm:=Ya0) Tryz.func109 (by kernel_rfl)
theorem o59:K 59 Jb4:=fnK (E:=E0) (tm:=Yaz) Tryz.func158 (by kernel_rfl)
theorem o60:K 60 Jb3:=fnK (E:=E0) (tm:=Yay) Tryz.func139 (by kernel_rfl)
theorem o61:K 61 Jb2:=fnK (E:=E0) (tm:=Yax) Tryz.func159 (by kernel_rfl)
theorem o63:K 63 Jb0:=fnK (E:=E0) (tm:=Yaw) Tryz.func19 (by kernel_rfl)
theorem o64:K 64 Jbz:=fnK (E:=⟨bW tiL,sigs,0,0,false,false,[],[(7,[(84,0,0,0)],[3,12,60,63,66,78,81,84,1],0,[]),(4,[(66,0,0,0)],[3,60,63,66,1],1,[])]⟩) (tm:=Yav) Tryz.func64 (by kernel_rfl)
theorem o65:K 65 Jby:=fnK (E:=E0) (tm:=Yau) Tryz.func115 (by kernel_rfl)
theorem o66:K 66 Jbx:=fnK (E:=E0) (tm:=Yat) Tryz.func116 (by kernel_rfl)
theorem o67:K 67 Jbw:=fnK (E:=E0) (tm:=Yas) Tryz.func152 (by kernel_rfl)
theorem o68:K 68 Jbv:=fnK (E:=E0) (tm:=Yar) Tryz.func164 (by kernel_rfl)
theorem o69:K 69 Jbu:=fnK (E:=E0) (tm:=Yaq) Tryz.func142 (by kernel_rfl)
theorem o70:K 70 Jbt:=fnK (E:=E0) (tm:=Yap) Tryz.func165 (by kernel_rfl)
theorem o71:K 71 Jbs:=fnK (E:=E0) (tm:=Yao) Tryz.func201 (by kernel_rfl)
theorem o72:K 72 Jbr:=fnK (E:=E0) (tm:=Yan) Tryz.func219 (by kernel_rfl)
theorem o73:K 73 Jbq:=fnK (E:=E0) (tm:=Cb4) Tryz.func166 (by kernel_rfl)
theorem o74:K 74 Jbp:=fnK (E:=E0) (tm:=Gbw) Tryz.func202 (by kernel_rfl)
theorem o75:K 75 Ob1:=fnK (E:=E0) (tm:=Gb3) Tryz.func65 (by kernel_rfl)
theorem o76:K 76 Ob0:=fnK (E:=⟨bW tiL,sigs,0,0,false,false,[],[(6,[(9,0,2,99),(54,0,0,0)],[9,12,27,30,33,48,51,54,1],4,[21]),(3,[(9,0,2,99),(33,0,0,0)],[9,27,30,33,1],7,[])]⟩) (tm:=Lb5) Tryz.func117 (by kernel_rfl)
theorem o77:K 77 Jbo:=fnK (E:=⟨bW tiL,sigs,0,0,false,false,[],[(7,[(21,0,2,1),(24,0,3,0),(105,0,3,0),(111,0,0,0)],[9,21,24,27,105,108,111,1],120,[1011,1646]),(4,[(21,0,2,1),(24,0,3,0),(27,0,0,0)],[9,21,24,27,1],335,[3])]⟩) (tm:=Gbv) Tryz.func56 (by kernel_rfl)
theorem o78:K 78 Obz:=fnK (E:=⟨bW tiL,sigs,0,0,false,false,[],[(7,[(24,0,2,99),(33,0,0,0)],[3,6,24,27,30,33,54,57,60,1,22],7,[1,33]),(4,[(24,0,2,99),(60,0,0,0)],[3,6,24,54,57,60,1,22],10,[1])]⟩) (tm:=Gb2) Tryz.func98 (by kernel_rfl)
theorem o79:K 79 Oby:=fnK (E:=E0) (tm:=Gb1) Tryz.func55 (by kernel_rfl)
theorem o80:K 80 Jbn:=fnK (E:=E0) (tm:=Yam) Tryz.func88 (by kernel_rfl)
theorem o81:K 81 Jbm:=fnK (E:=E0) (tm:=Yal) Tryz.func99 (by kernel_rfl)
theorem o82:K 82 Jbl:=fnK (E:=E0) (tm:=Yak) Tryz.func22 (by kernel_rfl)
theorem o83:K 83 Jbk:=fnK (E:=⟨bW tiL,sigs,0,0,false,true,[],[(3,[(60,0,0,0),(16,0,0,0),(16,1,2,99)],[3,9,54,57,60,1,16],225,[0,4]),(10,[(24,0,2,99),(144,0,0,0)],[9,18,21,24,138,141,144,1,16],353,[4,694,697,700,702]),(16,[(18,0,2,99),(33,0,2,99),(243,0,0,0)],[18,33,237,240,243,1,16],3,[4,694,696,700,1771,1773,1777])]⟩) (tm:=Yaj) Tryz.func68 (by kernel_rfl)
theorem o84:K 84 Jbj:=fnK (E:=E0) (tm:=Yai) Tryz.func79 (by kernel_rfl)
theorem o85:K 85 Jbi:=fnK (E:=E0) (tm:=Yah) Tryz.func82 (by kernel_rfl)
theorem o86:K 86 Jbh:=fnK (E:=⟨bW tiL,sigs,0,0,false,false,[],[(7,[(27,0,2,99),(99,0,0,0)],[3,12,15,21,24,27,45,48,51,93,96,99,1,76],7,[1,478,820,915]),(3,[(15,0,2,99),(51,0,0,0)],[3,12,15,45,48,51,1],157,[1,3])]⟩) (tm:=Yag) Tryz.func70 (by kernel_rfl)
theorem o87:K 87 Jbg:=fnK (E:=⟨bW tiL,sigs,0,0,false,false,[(4,1)],[]⟩) (tm:=Yaf) Tryz.func122 (by kernel_rfl)
theorem o88:K 88 Jbf:=fnK (E:=⟨bW tiL,sigs,0,0,false,true,[],[(3,[(51,0,0,0),(7,0,2,99)],[0,9,48,51,7],81,[0]),(13,[(24,0,2,99),(117,0,0,0)],[0,9,15,18,21,24,96,99,114,117,7,34],6,[253,400,442,447]),(9,[(15,0,2,99),(99,0,0,0)],[0,9,15,18,96,99,7,34],13,[253,255,400]),(25,[(249,0,0,0),(34,0,2,99)],[9,15,18,30,33,243,246,249,7,34],0,[253,475,478,480]),(22,[(15,0,2,99),(30,0,2,99),(34,0,2,99)],[9,15,18,30,7,34],7,[253,399,447,450])]⟩) (tm:=Yae) Tryz.func169 (by kernel_rfl)
theorem o89:K 89 Jbe:=fnK (E:=⟨bW tiL,sigs,0,0,false,false,[],[(7,[(15,0,2,99),(18,0,2,99),(96,0,0,0)],[0,15,18,90,93,96],4,[33,36]),(4,[(15,0,2,99),(18,0,2,99)],[0,15,18],9,[0,3]),(15,[(27,0,2,99),(156,0,0,0)],[27,150,153,156],3,[40,42])]⟩) (tm:=Yad) Tryz.func204 (by kernel_rfl)
theorem o90:K 90 Dbv:=fnK (E:=E0) (tm:=Vaw) Tryz.func177 (by kernel_rfl)
theorem o91:K 91 Jbd:=fnK (E:=E0) (tm:=Yac) Tryz.func210 (by kernel_rfl)
theorem o92:K 92 Jbc:=fnK (E:=E0) (tm:=Yab) Tryz.func139 (by kernel_rfl)
theorem o93:K 93 Dbu:=fnK (E:=E0) (tm:=Vav) Tryz.func205 (by kernel_rfl)
theorem o94:K 94 Jbb:=fnK (E:=E0) (tm:=Yaa) Tryz.func174 (by kernel_rfl)
theorem o95:K 95 Jba:=fnK (E:=E0) (tm:=Xa9) Tryz.func209 (by kernel_rfl)
theorem o96:K 96 Ib9:=fnK (E:=E0) (tm:=Gbu) Tryz.func206 (by kernel_rfl)
theorem o99:K 99 Ib6:=fnK (E:=E0) (tm:=Gbr) Tryz.func21 (by kernel_rfl)
theorem Pbz:K 100 Tas:=fnK (E:=⟨bW tiL,sigs,0,0,false,false,[],[(7,[(93,0,0,0),(22,1,2,99)],[3,9,12,15,63,66,90,93,1,22],131,[408]),(4,[(66,0,0,0),(22,1,2,99)],[3,9,12,63,66,1,22],134,[0]),(16,[(27,0,2,99),(183,0,0,0)],[3,21,24,27,177,180,183,1,22],353,[412,415]),(22,[(21,0,3,0),(36,0,2,1),(279,0,0,0)],[21,36,273,276,279,1,22],2,[412,416,1483,1486])]⟩) (tm:=Faj) Tryz.func67 (by kernel_rfl)
theorem Pby:K 101 Tar:=fnK (E:=⟨bW tiL,sigs,0,0,false,false,[],[(8,[(24,0,3,0),(87,0,0,0)],[3,12,15,24,42,45,48,81,84,87,1],1,[1,361,703]),(4,[(15,0,2,1),(48,0,0,0)],[3,12,15,42,45,48,1],119,[1])]⟩) (tm:=Fai) Tryz.func71 (by kernel_rfl)
theorem Pbx:K 102 Taq:=fnK (E:=E0) (tm:=Fah) Tryz.func121 (by kernel_rfl)
theorem Pbw:K 103 Tap:=fnK (E:=⟨bW tiL,sigs,0,0,false,false,[],[(15,[(21,0,0,0),(126,0,0,0)],[0,9,12,15,18,21,27,30,60,63,66,81,84,87,99,102,105,120,123,126],0,[82,85]),(12,[(21,0,0,0),(105,0,0,0)],[0,9,12,15,18,21,27,60,63,66,81,84,87,99,102,105],3,[82,85]),(9,[(21,0,0,0),(87,0,0,0)],[0,9,12,15,18,21,60,63,66,81,84,87],6,[82,85]),(5,[(66,0,0,0)],[0,9,12,60,63,66],9,[82,85]),(3,[(9,0,2,1),(12,0,2,1)],[0,9,12],26,[0])]⟩) (tm:=Fag) Tryz.func167 (by kernel_rfl)
theorem Pbv:K 104 Tao:=fnK (E:=⟨bW tiL,sigs,0,0,false,false,[],[(3,[(9,0,2,1),(36,0,0,0)],[0,9,33,36],2,[]),(13,[(21,0,2,99),(96,0,0,0)],[9,15,18,21,69,72,90,93,96],3,[13,43]),(9,[(15,0,2,99),(72,0,0,0)],[9,15,69,72],9,[13])]⟩) (tm:=Faf) Tryz.func203 (by kernel_rfl)
theorem Pbu:K 105 Tan:=fnK (E:=⟨bW tiL,sigs,0,0,false,false,[],[(7,[(15,0,3,0),(18,0,2,99),(84,0,0,0)],[0,15,18,21,78,81,84],4,[1,36]),(4,[(15,0,3,0),(18,0,2,99),(21,0,0,0)],[0,15,18,21],9,[2,3])]⟩) (tm:=Fae) Tryz.func220 (by kernel_rfl)
theorem Pbt:K 106 Tam:=fnK (E:=⟨bW tiL,sigs,0,0,false,false,[],[(6,[(24,0,0,0)],[3,15,21,24,30,33,36],0,[40]),(3,[(15,0,2,99),(36,0,0,0)],[3,15,30,33,36],13,[])]⟩) (tm:=Fad) Tryz.func168 (by kernel_rfl)
theorem Pbs:K 107 Tal:=fnK (E:=E0) (tm:=Fac) Tryz.func25 (by kernel_rfl)
theorem Pbr:K 108 Tak:=fnK (E:=E0) (tm:=Fab) Tryz.func26 (by kernel_rfl)
theorem Pbq:K 109 Taj:=fnK (E:=E0) (tm:=Nam) Tryz.func27 (by kernel_rfl)
theorem Pbp:K 110 Tai:=fnK (E:=E0) (tm:=Nal) Tryz.func72 (by kernel_rfl)
theorem o111:K 111 Tah:=fnK (E:=E0) (tm:=Faa) Tryz.func28 (by kernel_rfl)
theorem Pbo:K 112 Taf:=fnK (E:=E0) (tm:=Nak) Tryz.func13 (by kernel_rfl)
theorem Pbn:K 113 Tae:=fnK (E:=E0) (tm:=Naj) Tryz.func59 (by kernel_rfl)
theorem Pbm:K 114 Tad:=fnK (E:=E0) (tm:=Ea9) Tryz.func29 (by kernel_rfl)
theorem Pbl:K 115 Tac:=fnK (E:=E0) (tm:=Ea8) Tryz.func30 (by kernel_rfl)
theorem Pbk:K 116 Tab:=fnK (E:=E0) (tm:=Ea7) Tryz.func31 (by kernel_rfl)
theorem Pbj:K 117 Taa:=fnK (E:=E0) (tm:=Ea6) Tryz.func75 (by kernel_rfl)
theorem Pbi:K 118 Sa9:=fnK (E:=E0) (tm:=Ea5) Tryz.func11 (by kernel_rfl)
theorem Pbh:K 119 Sa8:=fnK (E:=E0) (tm:=Ea4) Tryz.func54 (by kernel_rfl)
theorem Pbg:K 120 Sa7:=fnK (E:=E0) (tm:=Ea3) Tryz.func95 (by kernel_rfl)
theorem Pbf:K 121 Sa6:=fnK (E:=E0) (tm:=Ea2) Tryz.func32 (by kernel_rfl)
theorem Pbe:K 122 Sa5:=fnK (E:=E0) (tm:=Ea1) Tryz.func33 (by kernel_rfl)
theorem Pbd:K 123 Sa4:=fnK (E:=⟨bW tiL,sigs,0,0,false,false,[],[(6,[(69,0,0,0)],[3,9,15,36,39,42,63,66,69,1],241,[1]),(3,[(42,0,0,0)],[3,9,36,39,42,1],242,[1])]⟩) (tm:=Ea0) Tryz.func76 (by kernel_rfl)
theorem Pbc:K 124 Sa3:=fnK (E:=E0) (tm:=Eaz) Tryz.func133 (by kernel_rfl)
theorem Pbb:K 125 Sa2:=fnK (E:=E0) (tm:=Eay) Tryz.func175 (by kernel_rfl)
theorem Pba:K 126 Sa1:=fnK (E:=E0) (tm:=Eax) Tryz.func174 (by kernel_rfl)
theorem Rbj:K 127 Dbz:=fnK (E:=E0) (tm:=Pau) Tryz.func209 (by kernel_rfl)
theorem Rbi:K 128 Dby:=fnK (E:=E0) (tm:=Pat) Tryz.func176 (by kernel_rfl)
theorem Rbh:K 129 Dbx:=fnK (E:=E0) (tm:=Pas) Tryz.func34 (by kernel_rfl)
theorem Sbj:K 130 Ob2:=fnK (E:=⟨bW tiL,sigs,0,0,false,false,[],[(6,[(69,0,0,0)],[3,9,15,36,39,42,63,66,69,1],226,[1]),(3,[(42,0,0,0)],[3,9,36,39,42,1],227,[1])]⟩) (tm:=Gb4) Tryz.func77 (by kernel_rfl)
theorem Uay:∀ key s,(key,s)∈sigs → Nae Tryz.prog T (bW tiL) sigs key s:=Cav (fc o0 <| fc o1 <| fc o2 <| fc o3 <| fc o4 <| fc o5 <| fc o6 <| fc o7 <| fc o8 <| fc o9 <| fc o10 <| fc o11 <| fc o12 <| fc o13 <| fc o14 <| fc o15 <| fc o16 <| fc o17 <| fc o18 <| fc o19 <| fc o20 <| fc o21 <| fc o22 <| fc o23 <| fc o24 <| fc o25 <| fc o26 <| fc o27 <| fc o28 <| fc o29 <| fc o30 <| fc o31 <| fc o32 <| fc o33 <| fc o34 <| fc o35 <| fc o36 <| fc o37 <| fc o38 <| fc o39 <| fc o40 <| fc o41 <| fc o42 <| fc o43 <| fc o44 <| fc o45 <| fc o46 <| fc o47 <| fc o48 <| fc o49 <| fc o50 <| fc o51 <| fc o52 <| fc o53 <| fc o54 <| fc o55 <| fc o56 <| fc o57 <| fc o58 <| fc o59 <| fc o60 <| fc o61 <| fc o62 <| fc o63 <| fc o64 <| fc o65 <| fc o66 <| fc o67 <| fc o68 <| fc o69 <| fc o70 <| fc o71 <| fc o72 <| fc o73 <| fc o74 <| fc o75 <| fc o76 <| fc o77 <| fc o78 <| fc o79 <| fc o80 <| fc o81 <| fc o82 <| fc o83 <| fc o84 <| fc o85 <| fc o86 <| fc o87 <| fc o88 <| fc o89 <| fc o90 <| fc o91 <| fc o92 <| fc o93 <| fc o94 <| fc o95 <| fc o96 <| fc o97 <| fc o98 <| fc o99 <| fc Pbz <| fc Pby <| fc Pbx <| fc Pbw <| fc Pbv <| fc Pbu <| fc Pbt <| fc Pbs <| fc Pbr <| fc Pbq <| fc Pbp <| fc o111 <| fc Pbo <| fc Pbn <| fc Pbm <| fc Pbl <| fc Pbk <| fc Pbj <| fc Pbi <| fc Pbh <| fc Pbg <| fc Pbf <| fc Pbe <| fc Pbd <| fc Pbc <| fc Pbb <| fc Pba <| fc Rbj <| fc Rbi <| fc Rbh <| fc Sbj <| fc0)
theorem contract:∀ n,qM Tryz.prog T n 0 sg0:=fun n=>contracts Iau (by kernel_rfl) Uay n 0 sg0 (by simp[sigs])
end FnReady
end Go.Proofs.YtpgnlmfmlffjcaaGreat
