/- The terms of the functions that FnFrames reaches (printed by the author's own program). -/
import Derived.Test.YtdpfilpckndhcaaGreatDoorChecked
import Derived.Test.YtdpfilpckndhcaaGreatDoorRf9
import Derived.KernelRfl
set_option linter.unusedSimpArgs false
set_option linter.unusedVariables false
namespace Go.Proofs.YtdpfilpckndhcaaGreatDoor
namespace FnFrames
open Go Go.Proofs.YtdpfilpckndhcaaGreatDoor.Rf
set_option maxRecDepth 100000

def t3:TI:=⟨false,1,8,[.sc (.int .i64 0)],[],none,(some .i64),false,false,false,false⟩
theorem ti3:yB Tryz.prog 3=some t3:=by kernel_rfl
def t4:TI:=⟨false,1,1,[.sc (.bool false)],[],none,none,true,false,false,false⟩
theorem ti4:yB Tryz.prog 4=some t4:=by kernel_rfl
def t5:TI:=⟨false,1,1,[.sc (.int .u8 0)],[],none,(some .u8),false,false,false,false⟩
theorem ti5:yB Tryz.prog 5=some t5:=by kernel_rfl
def t9:TI:=⟨false,1,16,[.sc (.str [])],[],none,none,false,true,false,false⟩
theorem ti9:yB Tryz.prog 9=some t9:=by kernel_rfl
def t21:TI:=⟨false,1,4,[.sc (.int .i32 0)],[],none,(some .i32),false,false,false,false⟩
theorem Nbz:yB Tryz.prog 21=some t21:=by kernel_rfl
def t22:TI:=⟨false,1,24,[.sl 1],[],(some 5),none,false,false,false,false⟩
theorem Nby:yB Tryz.prog 22=some t22:=by kernel_rfl
def t25:TI:=⟨true,5,40,[.sc (.int .i64 0),.sc (.int .i64 0),.sc (.int .i64 0),.sc (.int .i64 0),.sc (.int .i64 0)],[(0,3),(1,3),(2,3),(3,3),(4,3)],none,none,false,false,false,true⟩
theorem Nbx:yB Tryz.prog 25=some t25:=by kernel_rfl
def t26:TI:=⟨false,1,24,[.sl 1],[],(some 3),none,false,false,false,false⟩
theorem Nbw:yB Tryz.prog 26=some t26:=by kernel_rfl
def t28:TI:=⟨true,2,32,[.sc (.int .i64 0),.sl 1],[(0,3),(1,26)],none,none,false,false,false,false⟩
theorem Nbv:yB Tryz.prog 28=some t28:=by kernel_rfl
def t43:TI:=⟨false,1,24,[.sl 1],[],(some 57),none,false,false,false,false⟩
theorem Nbu:yB Tryz.prog 43=some t43:=by kernel_rfl
def t45:TI:=⟨true,2,32,[.sc (.int .i64 0),.sl 1],[(0,3),(1,43)],none,none,false,false,false,false⟩
theorem Nbt:yB Tryz.prog 45=some t45:=by kernel_rfl
def t53:TI:=⟨false,1,24,[.sl 1],[],(some 9),none,false,false,false,false⟩
theorem Nbs:yB Tryz.prog 53=some t53:=by kernel_rfl
def t57:TI:=⟨false,1,24,[.sl 10],[],(some 59),none,false,false,false,false⟩
theorem Nbr:yB Tryz.prog 57=some t57:=by kernel_rfl
def t59:TI:=⟨true,10,96,[.sc (.int .i64 0),.sc (.int .i64 0),.sc (.int .i64 0),.sc (.int .i64 0),.sc (.int .i64 0),.sc (.int .i64 0),.sc (.int .i64 0),.sc (.int .i64 0),.sc (.int .i64 0),.sl 1],[(0,3),(1,3),(2,3),(3,25),(8,28)],none,none,false,false,false,false⟩
theorem Nbq:yB Tryz.prog 59=some t59:=by kernel_rfl
def t97:TI:=⟨false,1,8,[.sc (.int .u64 0)],[],none,(some .u64),false,false,false,false⟩
theorem Nbp:yB Tryz.prog 97=some t97:=by kernel_rfl
def t99:TI:=⟨true,3,40,[.sl 1,.sc (.int .i64 0),.sc (.int .u64 0)],[(0,22),(1,3),(2,97)],none,none,false,false,false,false⟩
theorem Nbo:yB Tryz.prog 99=some t99:=by kernel_rfl
def tiL:List (Nat×TI):=[(3,t3),(4,t4),(5,t5),(9,t9),(21,t21),(22,t22),(25,t25),(26,t26),(28,t28),(43,t43),(45,t45),(53,t53),(57,t57),(59,t59),(97,t97),(99,t99)]
theorem Oaq:yA Tryz.prog (lU tiL):=Mat (l:=tiL) (fc ti3 <| fc ti4 <| fc ti5 <| fc ti9 <| fc Nbz <| fc Nby <| fc Nbx <| fc Nbw <| fc Nbv <| fc Nbu <| fc Nbt <| fc Nbs <| fc Nbr <| fc Nbq <| fc Nbp <| fc Nbo <| fc0)

def sg0:Sig:=⟨5,[(false,[.fz false]),(false,[.fz false])],[],[(false,[.sc])]⟩
def sg1:Sig:=⟨6,[(false,[.fz false]),(false,[.fz false])],[],[(false,[.sc])]⟩
def sg2:Sig:=⟨33,[(false,[.fz false])],[],[(false,[.sc]),(false,[.sc]),(false,[.sc]),(true,[.sc,.sc,.sc,.sc,.sc,.sc,.sc,.sc,.sc,.ow 99])]⟩
def sg3:Sig:=⟨105,[(false,[.px 0]),(false,[.fz false])],[(false,[(.fz false,.fz),(.sc,.sc),(.sc,.sc)])],[(false,[.sc])]⟩
def sg4:Sig:=⟨85,[(false,[.px 0]),(false,[.sc])],[(false,[(.fz false,.fz),(.sc,.sc),(.sc,.sc)])],[(false,[.sc])]⟩
def sg5:Sig:=⟨127,[(false,[.px 0])],[(false,[(.fz false,.fz),(.sc,.sc),(.sc,.sc)])],[(false,[.sc])]⟩
def sg6:Sig:=⟨102,[(false,[.px 0])],[(false,[(.fz false,.fz),(.sc,.sc),(.sc,.sc)])],[(false,[.sc]),(false,[.sc])]⟩
def sg7:Sig:=⟨103,[(false,[.px 0]),(false,[.sc])],[(false,[(.fz false,.fz),(.sc,.sc),(.sc,.sc)])],[(true,[.sc,.sc,.sc,.sc,.sc,.sc,.sc,.sc,.sc,.ow 99])]⟩
def sg8:Sig:=⟨129,[(false,[.px 0])],[(false,[(.fz false,.fz),(.sc,.sc),(.sc,.sc)])],[(true,[.sc,.sc,.sc,.sc,.sc])]⟩
def sg9:Sig:=⟨78,[(false,[.px 0]),(false,[.sc])],[(false,[(.fz false,.fz),(.sc,.sc),(.sc,.sc)])],[(false,[.sc])]⟩
def Lbk:Sig:=⟨69,[(false,[.sc])],[],[(true,[.sc,.ow 99])]⟩
def Lbj:Sig:=⟨34,[(false,[.sc]),(false,[.sc]),(false,[.sc]),(true,[.sc,.sc,.sc,.sc,.sc,.sc,.sc,.sc,.sc,.fz false])],[],[(false,[.sc]),(false,[.sc])]⟩
def Lbi:Sig:=⟨55,[(false,[.sc]),(false,[.sc]),(false,[.sc])],[],[(false,[.sc])]⟩
def Lbh:Sig:=⟨71,[(false,[.sc])],[],[(false,[.sc])]⟩
def Lbb:Sig:=⟨54,[(false,[.sc]),(false,[.sc]),(false,[.sc])],[],[(false,[.sc])]⟩
def Lba:Sig:=⟨56,[(false,[.sc]),(true,[.sc,.sc,.sc,.sc,.sc,.sc,.sc,.sc,.sc,.fz false])],[],[(false,[.sc])]⟩
def Kb9:Sig:=⟨58,[(true,[.sc,.sc,.sc,.sc,.sc])],[],[(false,[.sc])]⟩
def Kb8:Sig:=⟨114,[(false,[.sc])],[],[(false,[.sc])]⟩
def Kb7:Sig:=⟨59,[(false,[.sc]),(true,[.sc,.fz false])],[],[(false,[.sc])]⟩
def Kb6:Sig:=⟨115,[(false,[.fz false]),(false,[.clo 116 []])],[],[(false,[.sc])]⟩
def Kb5:Sig:=⟨145,[(false,[.fz false]),(false,[.clo 116 []])],[],[(false,[.sc])]⟩
def Kb4:Sig:=⟨116,[(false,[.sc])],[],[(false,[.sc])]⟩
def Kb3:Sig:=⟨61,[(false,[.sc])],[],[(true,[.sc,.ow 99])]⟩
def Kb2:Sig:=⟨60,[(true,[.sc,.fz false]),(true,[.sc,.fz false])],[],[(false,[.sc])]⟩
def Kb1:Sig:=⟨117,[(false,[.fz false]),(false,[.fz false])],[],[(false,[.sc])]⟩
def Kb0:Sig:=⟨91,[(false,[.sc]),(false,[.sc]),(true,[.sc,.sc,.sc,.sc,.sc,.sc,.sc,.sc,.sc,.fz false])],[],[(false,[.sc])]⟩
def Kbz:Sig:=⟨109,[(false,[.fz false])],[],[(false,[.sc])]⟩
def Kby:Sig:=⟨142,[(false,[.sc]),(false,[.fz false])],[],[(false,[.sc])]⟩
def Kbx:Sig:=⟨143,[(false,[.sc])],[],[(false,[.sc])]⟩
def Kbw:Sig:=⟨157,[(false,[.sc])],[],[(false,[.sc])]⟩
def Kbv:Sig:=⟨167,[(false,[.sc]),(false,[.sc])],[],[(false,[.sc])]⟩
def Kbu:Sig:=⟨156,[(false,[.fz false]),(false,[.sc])],[],[(false,[.sc])]⟩
def Kbt:Sig:=⟨110,[(true,[.sc,.sc,.sc,.sc,.sc])],[],[(false,[.sc])]⟩
def Kbs:Sig:=⟨111,[(true,[.sc,.fz false])],[],[(false,[.sc])]⟩
def Kbr:Sig:=⟨35,[(false,[.sc]),(false,[.sc]),(false,[.sc]),(true,[.sc,.sc,.sc,.sc,.sc,.sc,.sc,.sc,.sc,.fz false])],[],[(false,[.sc]),(false,[.sc])]⟩
def Kbq:Sig:=⟨62,[(false,[.sc])],[],[(false,[.sc])]⟩
def Kbp:Sig:=⟨64,[(false,[.sc]),(false,[.sc]),(false,[.sc])],[],[(false,[.sc])]⟩
def Kbo:Sig:=⟨63,[(false,[.sc]),(false,[.sc]),(false,[.sc])],[],[(false,[.sc])]⟩
def Kbn:Sig:=⟨65,[(false,[.sc]),(true,[.sc,.sc,.sc,.sc,.sc,.sc,.sc,.sc,.sc,.fz false])],[],[(false,[.sc])]⟩
def Kbm:Sig:=⟨68,[(true,[.sc,.fz false]),(true,[.sc,.fz false])],[],[(false,[.sc])]⟩
def Kbl:Sig:=⟨120,[(false,[.fz false]),(false,[.fz false])],[],[(false,[.sc])]⟩
def Kbk:Sig:=⟨67,[(true,[.sc,.sc,.sc,.sc,.sc])],[],[(false,[.sc])]⟩
def Kbj:Sig:=⟨119,[(true,[.sc,.sc,.sc,.sc,.sc])],[],[(false,[.sc])]⟩
def Kbi:Sig:=⟨146,[(false,[.sc])],[],[(false,[.sc])]⟩
def Kbh:Sig:=⟨66,[(false,[.sc]),(true,[.sc,.fz false])],[],[(false,[.sc])]⟩
def Kbg:Sig:=⟨118,[(false,[.fz false]),(false,[.sc]),(false,[.sc])],[],[(false,[.sc])]⟩
def Pbv:Sig:=⟨95,[(false,[.sc]),(false,[.sc]),(true,[.sc,.sc,.sc,.sc,.sc,.sc,.sc,.sc,.sc,.fz false])],[],[(false,[.sc])]⟩
def Pbu:Sig:=⟨51,[(false,[.sc])],[],[(false,[.sc])]⟩
def Kbf:Sig:=⟨52,[(true,[.sc,.sc,.sc,.sc,.sc])],[],[(false,[.sc])]⟩
def Pbt:Sig:=⟨53,[(true,[.sc,.fz false])],[],[(false,[.sc])]⟩
def Pbs:Sig:=⟨112,[(false,[.fz false])],[],[(false,[.sc])]⟩
def Pbr:Sig:=⟨36,[(false,[.sc]),(false,[.sc])],[],[(false,[.sc]),(false,[.sc]),(true,[.sc,.sc,.sc,.sc,.sc,.sc,.sc,.sc,.sc,.ow 99]),(false,[.sc])]⟩
def Pbq:Sig:=⟨70,[(false,[.sc]),(false,[.sc])],[],[(false,[.ow 99])]⟩
def Kbe:Sig:=⟨121,[(false,[.sc]),(false,[.sc]),(false,[.sc]),(false,[.sc])],[],[(false,[.ow 99])]⟩
def Kbd:Sig:=⟨147,[(false,[.sc]),(false,[.sc])],[],[(false,[.ow 99])]⟩
def Kbc:Sig:=⟨158,[(false,[.sc])],[],[(false,[.sc])]⟩
def Kbb:Sig:=⟨159,[(false,[.sc])],[],[(false,[.sc]),(false,[.sc])]⟩
def Kba:Sig:=⟨168,[(false,[.sc])],[],[(false,[.sc]),(false,[.sc])]⟩
def Jb9:Sig:=⟨148,[(false,[.sc]),(false,[.sc])],[],[(false,[.sc])]⟩
def Jb8:Sig:=⟨160,[(false,[.sc]),(false,[.sc])],[],[(false,[.sc])]⟩
def Jb7:Sig:=⟨149,[(false,[.sc]),(false,[.sc])],[],[(false,[.sc])]⟩
def Jb6:Sig:=⟨161,[(false,[.sc]),(false,[.sc])],[],[(false,[.sc])]⟩
def Jb5:Sig:=⟨169,[(false,[.sc]),(false,[.sc])],[],[(false,[.sc])]⟩
def Jb4:Sig:=⟨180,[(false,[.sc]),(false,[.sc])],[],[(false,[.sc])]⟩
def Jb3:Sig:=⟨74,[(false,[.fz false]),(false,[.sc])],[],[(false,[.ow 99]),(false,[.sc])]⟩
def Jb2:Sig:=⟨122,[(false,[.sc]),(false,[.sc])],[],[(false,[.sc])]⟩
def Jb1:Sig:=⟨75,[(false,[.sc])],[],[(true,[.sc,.sc,.sc,.sc,.sc]),(false,[.sc]),(false,[.sc])]⟩
def Jb0:Sig:=⟨72,[(false,[.fz false]),(false,[.sc])],[],[(false,[.sc])]⟩
def Jbz:Sig:=⟨76,[(false,[.sc]),(false,[.sc])],[],[(true,[.sc,.ow 99]),(false,[.sc])]⟩
def Jby:Sig:=⟨123,[(false,[.sc]),(false,[.sc])],[],[(false,[.sc]),(false,[.sc]),(false,[.sc])]⟩
def Jbx:Sig:=⟨150,[(false,[.sc]),(false,[.sc])],[],[(false,[.sc]),(false,[.sc]),(false,[.sc])]⟩
def Jbw:Sig:=⟨37,[(false,[.sc])],[],[(false,[.sc]),(false,[.sc])]⟩
def Jbv:Sig:=⟨92,[(false,[.sc])],[],[(false,[.sc])]⟩
def Jbu:Sig:=⟨137,[(false,[.sc]),(false,[.sc]),(false,[.sc])],[],[(false,[.sc])]⟩
def Jbt:Sig:=⟨136,[(false,[.sc])],[],[(false,[.sc])]⟩
def Jbs:Sig:=⟨26,[(false,[.sc])],[],[(false,[.ow 99]),(false,[.sc]),(false,[.sc])]⟩
def Jbr:Sig:=⟨97,[(false,[.sc])],[],[(false,[.ow 99])]⟩
def Jbq:Sig:=⟨29,[(true,[.sc,.sc,.sc,.sc,.sc,.sc,.sc,.sc,.sc,.fz false]),(true,[.sc,.sc,.sc,.sc,.sc,.sc,.sc,.sc,.sc,.fz false])],[],[(false,[.sc])]⟩
def Jbp:Sig:=⟨77,[(true,[.sc,.fz false]),(true,[.sc,.fz false])],[],[(false,[.sc])]⟩
def Jbo:Sig:=⟨124,[(false,[.fz false]),(false,[.fz false])],[],[(false,[.sc])]⟩
def Jbn:Sig:=⟨38,[(false,[.fz false])],[],[(false,[.sc]),(false,[.sc])]⟩
def Jbm:Sig:=⟨79,[(false,[.px 0]),(false,[.sc]),(false,[.sc])],[(false,[(.fz false,.fz),(.sc,.sc),(.sc,.sc)])],[(false,[.sc])]⟩
def Jbl:Sig:=⟨39,[(false,[.sc]),(false,[.sc])],[],[(false,[.sc]),(false,[.sc]),(true,[.sc,.sc,.sc,.sc,.sc,.sc,.sc,.sc,.sc,.ow 99]),(false,[.sc])]⟩
def Jbk:Sig:=⟨80,[(false,[.sc]),(false,[.sc])],[],[(false,[.ow 99])]⟩
def Jbj:Sig:=⟨81,[(false,[.sc])],[],[(false,[.sc])]⟩
def Jbi:Sig:=⟨82,[(false,[.sc])],[],[(true,[.sc,.sc,.sc,.sc,.sc]),(false,[.sc]),(false,[.sc])]⟩
def Jbh:Sig:=⟨83,[(false,[.sc]),(false,[.sc])],[],[(true,[.sc,.ow 99]),(false,[.sc])]⟩
def Jbg:Sig:=⟨125,[(false,[.sc]),(true,[.sc,.fz false])],[],[(false,[.sc])]⟩
def Jbf:Sig:=⟨40,[(false,[.fz false])],[],[(false,[.sc])]⟩
def Jbe:Sig:=⟨41,[(false,[.sc])],[],[(false,[.sc]),(false,[.sc])]⟩
def Jbd:Sig:=⟨94,[(false,[.sc])],[],[(false,[.sc])]⟩
def Jbc:Sig:=⟨42,[(false,[.fz false])],[],[(false,[.sc])]⟩
def Jbb:Sig:=⟨101,[(false,[.px 0])],[(false,[(.fz false,.fz),(.sc,.sc),(.sc,.sc)])],[(false,[.sc]),(false,[.sc])]⟩
def Jba:Sig:=⟨87,[(false,[.px 0])],[(false,[(.fz false,.fz),(.sc,.sc),(.sc,.sc)])],[(true,[.sc,.ow 99])]⟩
def Yaz:Sig:=⟨128,[(false,[.sc])],[],[(true,[.sc,.ow 99])]⟩
def Yay:Sig:=⟨86,[(false,[.px 0])],[(false,[(.fz false,.fz),(.sc,.sc),(.sc,.sc)])],[(true,[.sc,.ow 99])]⟩
def Yax:Sig:=⟨130,[(true,[.sc,.fz false]),(true,[.sc,.sc,.sc,.sc,.sc]),(false,[.sc]),(false,[.sc])],[],[(true,[.sc,.ow 99])]⟩
def Yaw:Sig:=⟨151,[(true,[.sc,.sc,.sc,.sc,.sc]),(true,[.sc,.sc,.sc,.sc,.sc])],[],[(false,[.sc])]⟩
def Yav:Sig:=⟨162,[(true,[.sc,.sc,.sc,.sc,.sc])],[],[(false,[.fz])]⟩
def Yau:Sig:=⟨173,[(false,[.fz false]),(false,[.sc])],[],[(false,[.fz])]⟩
def Yat:Sig:=⟨163,[(false,[.fz false]),(false,[.sc])],[],[(false,[.sc])]⟩
def Yas:Sig:=⟨139,[(false,[.sc]),(false,[.sc])],[],[(false,[.sc])]⟩
def Yar:Sig:=⟨131,[(true,[.sc,.fz false]),(false,[.sc]),(false,[.sc]),(true,[.sc,.sc,.sc,.sc,.sc,.sc,.sc,.sc,.sc,.fz false])],[],[(true,[.sc,.ow 99])]⟩
def Pae:Sig:=⟨152,[(true,[.sc,.fz false])],[],[(true,[.sc,.ow 99])]⟩
def Yaq:Sig:=⟨153,[(true,[.sc,.sc,.sc,.sc,.sc,.sc,.sc,.sc,.sc,.fz false])],[],[(true,[.sc,.sc,.sc,.sc,.sc,.sc,.sc,.sc,.sc,.ow 99])]⟩
def Yap:Sig:=⟨84,[(true,[.sc,.fz false])],[],[(true,[.sc,.ow 99])]⟩
def Yao:Sig:=⟨126,[(false,[.fz false])],[],[(false,[.ow 99])]⟩
def Yan:Sig:=⟨21,[(true,[.sc,.fz false])],[],[(false,[.sc]),(false,[.sc])]⟩
def Yam:Sig:=⟨93,[(true,[.sc,.fz false])],[],[(false,[.sc])]⟩
def Yal:Sig:=⟨32,[(false,[.sc]),(false,[.sc]),(false,[.sc]),(false,[.sc]),(true,[.sc,.sc,.sc,.sc,.sc,.sc,.sc,.sc,.sc,.fz false])],[],[(false,[.sc]),(false,[.sc])]⟩
def Yak:Sig:=⟨104,[(false,[.sc]),(false,[.sc])],[],[(true,[.sc,.ow 99]),(false,[.sc])]⟩
def Yaj:Sig:=⟨106,[(false,[.sc])],[],[(false,[.ow 99]),(false,[.sc])]⟩
def Yai:Sig:=⟨43,[(false,[.sc])],[],[(false,[.ow 99]),(false,[.sc]),(false,[.sc])]⟩
def Yah:Sig:=⟨44,[(false,[.fz false])],[],[(false,[.sc]),(false,[.sc])]⟩
def Yag:Sig:=⟨22,[(false,[.sc]),(false,[.sc])],[],[(true,[.sc,.ow 99]),(false,[.sc]),(false,[.sc])]⟩
def Yaf:Sig:=⟨96,[(false,[.sc])],[],[(true,[.sc,.ow 99])]⟩
def Yae:Sig:=⟨98,[(false,[.px 0]),(false,[.sc]),(false,[.sc]),(true,[.sc,.sc,.sc,.sc,.sc,.sc,.sc,.sc,.sc,.fz false])],[(false,[(.sc,.sc),(.ow 99,.ow 99)])],[]⟩
def Yad:Sig:=⟨138,[(true,[.sc,.sc,.sc,.sc,.sc,.sc,.sc,.sc,.sc,.fz false])],[],[(true,[.sc,.sc,.sc,.sc,.sc,.sc,.sc,.sc,.sc,.ow 99])]⟩
def Yac:Sig:=⟨113,[(true,[.sc,.fz false])],[],[(true,[.sc,.ow 99])]⟩
def Pad:Sig:=⟨144,[(false,[.fz false])],[],[(false,[.ow 99])]⟩
def Yab:Sig:=⟨45,[(false,[.sc]),(false,[.sc])],[],[(true,[.sc,.ow 99]),(false,[.sc]),(false,[.sc])]⟩
def Yaa:Sig:=⟨46,[(false,[.fz false])],[],[(false,[.sc]),(false,[.sc])]⟩
def Xa9:Sig:=⟨24,[(false,[.sc]),(false,[.sc])],[],[(false,[.sc]),(false,[.sc])]⟩
def Xa8:Sig:=⟨47,[(false,[.sc]),(false,[.sc])],[],[(false,[.sc]),(false,[.sc])]⟩
def Xa7:Sig:=⟨27,[(false,[.fz false]),(false,[.fz false])],[],[(false,[.sc])]⟩
def Xa6:Sig:=⟨23,[(true,[.sc,.fz false]),(true,[.sc,.fz false])],[],[(false,[.sc])]⟩
def Xa5:Sig:=⟨99,[(false,[.fz false]),(false,[.fz false])],[],[(false,[.sc])]⟩
def sigs:List (Nat×Sig):=[(0,sg0),(1,sg1),(2,sg2),(3,sg3),(4,sg4),(5,sg5),(6,sg6),(7,sg7),(8,sg8),(9,sg9),(10,Lbk),(11,Lbj),(12,Lbi),(13,Lbh),(14,Lbb),(15,Lba),(16,Kb9),(17,Kb8),(18,Kb7),(19,Kb6),(20,Kb5),(21,Kb4),(22,Kb3),(23,Kb2),(24,Kb1),(25,Kb0),(26,Kbz),(27,Kby),(28,Kbx),(29,Kbw),(30,Kbv),(33,Kbu),(38,Kbt),(39,Kbs),(40,Kbr),(41,Kbq),(42,Kbp),(43,Kbo),(44,Kbn),(45,Kbm),(46,Kbl),(47,Kbk),(48,Kbj),(49,Kbi),(50,Kbh),(51,Kbg),(52,Pbv),(53,Pbu),(54,Kbf),(55,Pbt),(56,Pbs),(57,Pbr),(58,Pbq),(59,Kbe),(60,Kbd),(61,Kbc),(62,Kbb),(63,Kba),(64,Jb9),(65,Jb8),(66,Jb7),(67,Jb6),(68,Jb5),(69,Jb4),(70,Jb3),(71,Jb2),(72,Jb1),(73,Jb0),(74,Jbz),(75,Jby),(76,Jbx),(77,Jbw),(78,Jbv),(79,Jbu),(80,Jbt),(81,Jbs),(82,Jbr),(83,Jbq),(84,Jbp),(85,Jbo),(86,Jbn),(87,Jbm),(88,Jbl),(89,Jbk),(90,Jbj),(91,Jbi),(92,Jbh),(93,Jbg),(94,Jbf),(95,Jbe),(96,Jbd),(97,Jbc),(98,Jbb),(99,Jba),(100,Yaz),(101,Yay),(102,Yax),(103,Yaw),(104,Yav),(105,Yau),(106,Yat),(107,Yas),(108,Yar),(109,Pae),(110,Yaq),(111,Yap),(112,Yao),(113,Yan),(114,Yam),(115,Yal),(116,Yak),(117,Yaj),(118,Yai),(119,Yah),(120,Yag),(121,Yaf),(122,Yae),(123,Yad),(124,Yac),(125,Pad),(126,Yab),(127,Yaa),(128,Xa9),(129,Xa8),(130,Xa7),(131,Xa6),(132,Xa5)]
abbrev E0:Env:=⟨lU tiL,sigs,0,0,false,false,[],[]⟩

def tm0:Tm Unit :=
(.call none 1 [.v 0,.v 1] 1 [] <|
(.ite (.v 2)
(.leaf .ret [.c (.bool true)] ())
(.call none 2 [.v 0] 13 [] <|
(.call none 11 [.v 3,.v 4,.v 5,.v 6,.v 7,.v 8,.v 9,.v 10,.v 11,.v 12,.v 13,.v 14,.v 15] 2 [] <|
(.call none 40 [.v 3,.v 4,.v 5,.v 6,.v 7,.v 8,.v 9,.v 10,.v 11,.v 12,.v 13,.v 14,.v 15] 2 [] <|
(.lt none (.eqb true) [.v 17,.v 19] 1 <|
(.lt (some (.v 20,false)) .id [.v 16] 1 <|
(.lt (some (.v 20,false)) .id [.v 18] 1 <|
(.lt (some (.v 20,false)) (.bin .neq) [.v 21,.v 22] 1 <|
(.lt none .pick [.v 20,.c (.bool true),.v 23] 1 <|
(.ite (.v 24)
(.leaf .ret [.c (.bool false)] ())
(.bind 0
(.ite (.v 17)
(.call none 57 [.v 3,.v 16] 13 [] <|
(.call none 77 [.v 16] 2 [] <|
(.lt none (.bin .add) [.v 38,.v 38] 1 <|
(.call none 81 [.v 40] 3 [] <|
(.lt none .not [.v 37] 1 <|
(.lt (some (.v 44,false)) .id [.v 25] 1 <|
(.lt (some (.v 44,false)) .id [.v 4] 1 <|
(.lt (some (.v 44,false)) (.bin .neq) [.v 45,.v 46] 1 <|
(.lt none .pick [.v 44,.c (.bool true),.v 47] 1 <|
(.lt (some (.v 48,false)) .id [.v 26] 1 <|
(.lt (some (.v 48,false)) .id [.v 5] 1 <|
(.lt (some (.v 48,false)) (.bin .neq) [.v 49,.v 50] 1 <|
(.lt none .pick [.v 48,.c (.bool true),.v 51] 1 <|
(.call (some (.v 52,false)) 83 [.v 27,.v 28,.v 29,.v 30,.v 31,.v 32,.v 33,.v 34,.v 35,.v 36,.v 6,.v 7,.v 8,.v 9,.v 10,.v 11,.v 12,.v 13,.v 14,.v 15] 1 [] <|
(.lt (some (.v 52,false)) .not [.v 53] 1 <|
(.lt none .pick [.v 52,.c (.bool true),.v 54] 1 <|
(.lt (some (.v 55,false)) .id [.v 39] 1 <|
(.lt (some (.v 55,false)) .not [.v 56] 1 <|
(.lt none .pick [.v 55,.c (.bool true),.v 57] 1 <|
(.lt (some (.v 58,false)) .id [.v 43] 1 <|
(.lt (some (.v 58,false)) .not [.v 59] 1 <|
(.lt none .pick [.v 58,.c (.bool true),.v 60] 1 <|
(.lt (some (.v 61,false)) .id [.v 42] 1 <|
(.lt (some (.v 61,false)) .id [.v 38] 1 <|
(.lt (some (.v 61,false)) .slen [.v 63] 1 <|
(.lt (some (.v 61,false)) (.bin .mul) [.c (.int .i64 2),.v 64] 1 <|
(.lt (some (.v 61,false)) (.bin .neq) [.v 62,.v 65] 1 <|
(.lt none .pick [.v 61,.c (.bool true),.v 66] 1 <|
(.lt (some (.v 67,false)) .len [.v 41] 1 <|
(.lt (some (.v 67,false)) (.bin .neq) [.v 68,.c (.int .i64 2)] 1 <|
(.lt none .pick [.v 67,.c (.bool true),.v 69] 1 <|
(.lt (some (.v 70,false)) .inb [.v 41,.c (.int .i64 1)] 0 <|
(.lt (some (.v 70,false)) (.row 1 0 [true]) [.v 41,.c (.int .i64 1)] 1 <|
(.lt (some (.v 70,false)) .id [.v 16] 1 <|
(.lt (some (.v 70,false)) (.bin .neq) [.v 71,.v 72] 1 <|
(.lt none .pick [.v 70,.c (.bool true),.v 73] 1 <|
(.ite (.v 74)
(.leaf .ret [.c (.bool false)] ())
(.leaf (.yield 0) [] ()))))))))))))))))))))))))))))))))))))))
(.leaf (.yield 0) [] ())) <|
(.call none 86 [.v 1] 2 [] <|
(.call none 57 [.v 25,.v 26] 13 [] <|
(.call none 88 [.v 25,.v 26] 13 [] <|
(.call none 94 [.v 1] 1 [] <|
(.call none 77 [.v 53] 2 [] <|
(.call none 95 [.v 53] 2 [] <|
(.call none 97 [.v 1] 1 [] <|
(.call none 81 [.v 58] 3 [] <|
(.call none 118 [.v 58] 3 [] <|
(.call none 119 [.v 1] 2 [] <|
(.call none 120 [.v 65,.v 66] 4 [] <|
(.call none 126 [.v 65,.v 66] 4 [] <|
(.call none 127 [.v 1] 2 [] <|
(.call none 128 [.v 75,.v 76] 2 [] <|
(.call none 129 [.v 75,.v 76] 2 [] <|
(.lt none (.eqb false) [.v 39,.v 52] 1 <|
(.lt (some (.v 81,true)) .id [.v 27] 1 <|
(.lt (some (.v 81,true)) .id [.v 40] 1 <|
(.lt (some (.v 81,true)) (.bin .eql) [.v 82,.v 83] 1 <|
(.lt none .pick [.v 81,.v 84,.c (.bool false)] 1 <|
(.lt (some (.v 85,true)) .id [.v 28] 1 <|
(.lt (some (.v 85,true)) .id [.v 41] 1 <|
(.lt (some (.v 85,true)) (.bin .eql) [.v 86,.v 87] 1 <|
(.lt none .pick [.v 85,.v 88,.c (.bool false)] 1 <|
(.call (some (.v 89,true)) 83 [.v 29,.v 30,.v 31,.v 32,.v 33,.v 34,.v 35,.v 36,.v 37,.v 38,.v 42,.v 43,.v 44,.v 45,.v 46,.v 47,.v 48,.v 49,.v 50,.v 51] 1 [] <|
(.lt none .pick [.v 89,.v 90,.c (.bool false)] 1 <|
(.lt (some (.v 91,true)) .id [.v 55] 1 <|
(.lt (some (.v 91,true)) .id [.v 57] 1 <|
(.lt (some (.v 91,true)) (.eqb false) [.v 92,.v 93] 1 <|
(.lt none .pick [.v 91,.v 94,.c (.bool false)] 1 <|
(.lt (some (.v 95,true)) .id [.v 54] 1 <|
(.lt (some (.v 95,true)) .id [.v 56] 1 <|
(.lt (some (.v 95,true)) (.bin .eql) [.v 96,.v 97] 1 <|
(.lt none .pick [.v 95,.v 98,.c (.bool false)] 1 <|
(.lt (some (.v 99,true)) .id [.v 61] 1 <|
(.lt (some (.v 99,true)) .id [.v 64] 1 <|
(.lt (some (.v 99,true)) (.eqb false) [.v 100,.v 101] 1 <|
(.lt none .pick [.v 99,.v 102,.c (.bool false)] 1 <|
(.lt (some (.v 103,true)) .id [.v 60] 1 <|
(.lt (some (.v 103,true)) .id [.v 63] 1 <|
(.lt (some (.v 103,true)) (.bin .eql) [.v 104,.v 105] 1 <|
(.lt none .pick [.v 103,.v 106,.c (.bool false)] 1 <|
(.call (some (.v 107,true)) 130 [.v 59,.v 62] 1 [] <|
(.lt none .pick [.v 107,.v 108,.c (.bool false)] 1 <|
(.lt (some (.v 109,true)) .id [.v 70] 1 <|
(.lt (some (.v 109,true)) .id [.v 74] 1 <|
(.lt (some (.v 109,true)) (.eqb false) [.v 110,.v 111] 1 <|
(.lt none .pick [.v 109,.v 112,.c (.bool false)] 1 <|
(.lt (some (.v 113,true)) .id [.v 69] 1 <|
(.lt (some (.v 113,true)) .id [.v 73] 1 <|
(.lt (some (.v 113,true)) (.bin .eql) [.v 114,.v 115] 1 <|
(.lt none .pick [.v 113,.v 116,.c (.bool false)] 1 <|
(.call (some (.v 117,true)) 131 [.v 67,.v 68,.v 71,.v 72] 1 [] <|
(.lt none .pick [.v 117,.v 118,.c (.bool false)] 1 <|
(.lt (some (.v 119,true)) .id [.v 78] 1 <|
(.lt (some (.v 119,true)) .id [.v 80] 1 <|
(.lt (some (.v 119,true)) (.eqb false) [.v 120,.v 121] 1 <|
(.lt none .pick [.v 119,.v 122,.c (.bool false)] 1 <|
(.lt (some (.v 123,true)) .id [.v 77] 1 <|
(.lt (some (.v 123,true)) .id [.v 79] 1 <|
(.lt (some (.v 123,true)) (.bin .eql) [.v 124,.v 125] 1 <|
(.lt none .pick [.v 123,.v 126,.c (.bool false)] 1 <|
(.leaf .ret [.v 127] ())))))))))))))))))))))))))))))))))))))))))))))))))))))))))))))))))))))))))))
def tm1:Tm Unit :=
(.lt none .len [.v 0] 1 <|
(.lt none (.bin .gtr) [.v 2,.c (.int .i64 1048576)] 1 <|
(.lt (some (.v 3,false)) .len [.v 1] 1 <|
(.lt (some (.v 3,false)) .len [.v 0] 1 <|
(.lt (some (.v 3,false)) (.bin .sub) [.c (.int .i64 1048576),.v 5] 1 <|
(.lt (some (.v 3,false)) (.bin .gtr) [.v 4,.v 6] 1 <|
(.lt none .pick [.v 3,.c (.bool true),.v 7] 1 <|
(.leaf .ret [.v 8] ()))))))))
def tm2:Tm Unit :=
(.lt none (.mk 1 4) [.c (.int .i64 3),.c (.int .i64 3),.c (.int .i64 5),.c (.int .i64 4)] 1 <|
(.call none 3 [.v 1,.v 0,.c (.int .i64 0),.c (.int .u64 0)] 4 [] <|
(.call none 6 [.v 3,.v 4,.v 5] 5 [] <|
(.call none 7 [.v 2,.v 8,.v 9,.v 10] 13 [] <|
(.lt none (.dep 99) [.v 20] 0 <|
(.leaf .ret [.v 2,.v 6,.v 7,.v 11,.v 12,.v 13,.v 14,.v 15,.v 16,.v 17,.v 18,.v 19,.v 20] ()))))))
def tm3:Tm Unit :=
(.lt none .len [.v 0] 1 <|
(.call none 4 [.v 4,.v 1,.v 2,.v 3] 4 [] <|
(.lt none .inb [.v 0,.v 5] 0 <|
(.lt none (.row 1 0 [true]) [.v 0,.v 5] 1 <|
(.leaf .ret [.v 9,.v 6,.v 7,.v 8] ())))))
def tm4:Tm Unit :=
(.lt none (.bin .leq) [.v 0,.c (.int .i64 1)] 1 <|
(.ite (.v 4)
(.leaf .ret [.c (.int .i64 0),.v 1,.v 2,.v 3] ())
(.call none 5 [.v 1,.v 2,.v 3] 4 [] <|
(.bind 0
(.lt none (.bin .gtr) [.v 0,.c (.int .i64 200)] 1 <|
(.ite (.v 9)
(.lt none (.bin .mul) [.v 5,.c (.int .i64 256)] 1 <|
(.call none 5 [.v 6,.v 7,.v 8] 4 [] <|
(.lt none (.bin .add) [.v 10,.v 11] 1 <|
(.leaf (.yield 0) [.v 15,.v 12,.v 13,.v 14] ()))))
(.leaf (.yield 0) [.v 5,.v 6,.v 7,.v 8] ()))) <|
(.lt none (.bin .rem) [.v 9,.v 0] 1 <|
(.leaf .ret [.v 13,.v 10,.v 11,.v 12] ()))))))
def tm5:Tm Unit :=
(.bind 0
(.lt none .len [.v 0] 1 <|
(.lt none (.bin .lss) [.v 1,.v 3] 1 <|
(.ite (.v 4)
(.lt none .inb [.v 0,.v 1] 0 <|
(.lt none (.row 1 0 [true]) [.v 0,.v 1] 1 <|
(.lt none (.conv .i64) [.v 5] 1 <|
(.leaf (.yield 0) [.v 6] ()))))
(.leaf (.yield 0) [.c (.int .i64 0)] ())))) <|
(.lt none (.bin .add) [.v 1,.c (.int .i64 1)] 1 <|
(.lt none (.bin .mul) [.v 2,.c (.int .u64 6364136223846793005)] 1 <|
(.lt none (.conv .u64) [.v 3] 1 <|
(.lt none (.bin .add) [.v 5,.v 6] 1 <|
(.lt none (.bin .add) [.v 7,.c (.int .u64 1442695040888963407)] 1 <|
(.lt none .len [.v 0] 1 <|
(.lt none (.bin .leq) [.v 4,.v 9] 1 <|
(.ite (.v 10)
(.leaf .ret [.v 3,.v 0,.v 4,.v 8] ())
(.lt none (.bin .shr) [.v 8,.c (.int .u64 40)] 1 <|
(.lt none (.bin .and) [.v 11,.c (.int .u64 255)] 1 <|
(.lt none (.conv .i64) [.v 12] 1 <|
(.leaf .ret [.v 13,.v 0,.v 4,.v 8] ())))))))))))))
def tm6:Tm Unit :=
(.call none 4 [.c (.int .i64 4),.v 0,.v 1,.v 2] 4 [] <|
(.call none 4 [.c (.int .i64 12),.v 4,.v 5,.v 6] 4 [] <|
(.lt none (.bin .quo) [.v 7,.c (.int .i64 11)] 1 <|
(.lt none (.bin .sub) [.v 3,.v 11] 1 <|
(.lt none (.mk 1 9) [.c (.int .i64 1),.c (.int .i64 1),.c (.int .i64 2),.c (.int .i64 2),.c (.int .i64 3),.c (.int .i64 4),.c (.int .i64 6),.c (.int .i64 7),.c (.int .i64 0)] 1 <|
(.call none 3 [.v 13,.v 8,.v 9,.v 10] 4 [] <|
(.leaf .ret [.v 12,.v 14,.v 15,.v 16,.v 17] ())))))))
def tm7:Tm Unit :=
(.lt none (.mk 1 5) [.c (.int .i64 0),.c (.int .i64 0),.c (.int .i64 8),.c (.int .i64 9),.c (.int .i64 17)] 1 <|
(.call none 3 [.v 4,.v 1,.v 2,.v 3] 4 [] <|
(.call none 4 [.c (.int .i64 4),.v 6,.v 7,.v 8] 4 [] <|
(.call none 8 [.v 10,.v 11,.v 12] 8 [] <|
(.call none 4 [.c (.int .i64 5),.v 18,.v 19,.v 20] 4 [] <|
(.bind 1
(.loop [.c (.int .i64 0),.v 22,.v 23,.v 24,.c (.rows 1 [])]
(.lt none (.bin .lss) [.v 25,.v 0] 1 <|
(.ite (.v 30)
(.call none 4 [.c (.int .i64 3),.v 26,.v 27,.v 28] 4 [] <|
(.lt none (.mk 1 1) [.v 31] 1 <|
(.lt none (.app 1 8 true) [.v 29,.v 35] 1 <|
(.lt none (.bin .add) [.v 25,.c (.int .i64 1)] 1 <|
(.leaf .cont [.v 37,.v 32,.v 33,.v 34,.v 36] ())))))
(.leaf (.yield 1) [.v 26,.v 27,.v 28,.v 29] ())))) <|
(.bind 0
(.call none 9 [.c (.int .i64 2),.v 25,.v 26,.v 27] 4 [] <|
(.ite (.v 29)
(.leaf (.yield 0) [.v 30,.v 31,.v 32,.v 5] ())
(.leaf (.yield 0) [.v 30,.v 31,.v 32,.c (.int .i64 0)] ()))) <|
(.bind 0
(.lt none (.bin .eql) [.v 9,.c (.int .i64 0)] 1 <|
(.ite (.v 33)
(.call none 10 [.v 0] 2 [] <|
(.leaf (.yield 0) [.c (.int .i64 0),.c (.int .i64 0),.c (.int .i64 0),.c (.int .i64 0),.c (.int .i64 0),.c (.int .i64 0),.c (.int .i64 0),.v 34,.v 35] ()))
(.leaf (.yield 0) [.v 32,.v 9,.v 13,.v 14,.v 15,.v 16,.v 17,.v 21,.v 28] ()))) <|
(.leaf .ret [.v 5,.v 33,.v 34,.v 35,.v 36,.v 37,.v 38,.v 39,.v 40,.v 41,.v 29,.v 30,.v 31] ())))))))))
def tm8:Tm Unit :=
(.call none 4 [.c (.int .i64 9),.v 0,.v 1,.v 2] 4 [] <|
(.lt none (.bin .add) [.c (.int .i64 1),.v 3] 1 <|
(.call none 4 [.c (.int .i64 4),.v 4,.v 5,.v 6] 4 [] <|
(.call none 4 [.c (.int .i64 30),.v 9,.v 10,.v 11] 4 [] <|
(.lt none (.bin .add) [.c (.int .i64 1),.v 12] 1 <|
(.lt none (.bin .add) [.v 8,.c (.int .i64 1)] 1 <|
(.call none 4 [.c (.int .i64 3),.v 13,.v 14,.v 15] 4 [] <|
(.lt none (.bin .add) [.v 17,.v 18] 1 <|
(.lt none (.bin .rem) [.v 22,.c (.int .i64 4)] 1 <|
(.call none 9 [.c (.int .i64 4),.v 19,.v 20,.v 21] 4 [] <|
(.ite (.v 24)
(.leaf .ret [.c (.int .i64 2),.v 7,.v 8,.c (.int .i64 0),.c (.int .i64 0),.v 25,.v 26,.v 27] ())
(.leaf .ret [.c (.int .i64 1),.v 7,.v 8,.v 23,.v 16,.v 25,.v 26,.v 27] ()))))))))))))
def tm9:Tm Unit :=
(.call none 4 [.v 0,.v 1,.v 2,.v 3] 4 [] <|
(.lt none (.bin .eql) [.v 4,.c (.int .i64 0)] 1 <|
(.leaf .ret [.v 8,.v 5,.v 6,.v 7] ())))
def Vaj:Tm Unit :=
(.lt none (.make 8 [(.int .i64 0)]) [.v 0] 1 <|
(.leaf .ret [.c (.int .i64 0),.v 1] ()))
def Dbq:Tm Unit :=
(.call none 12 [.v 0,.v 1,.v 2] 1 [] <|
(.lt none .not [.v 13] 1 <|
(.lt (some (.v 14,false)) .id [.v 0] 1 <|
(.call (some (.v 14,false)) 15 [.v 15,.v 3,.v 4,.v 5,.v 6,.v 7,.v 8,.v 9,.v 10,.v 11,.v 12] 1 [] <|
(.lt (some (.v 14,false)) .not [.v 16] 1 <|
(.lt none .pick [.v 14,.c (.bool true),.v 17] 1 <|
(.ite (.v 18)
(.leaf .ret [.c (.str []),.c (.bool false)] ())
(.call none 25 [.v 1,.v 2,.v 3,.v 4,.v 5,.v 6,.v 7,.v 8,.v 9,.v 10,.v 11,.v 12] 1 [] <|
(.leaf .ret [.v 19,.c (.bool true)] ())))))))))
def Dbp:Tm Unit :=
(.call none 13 [.v 0] 1 [] <|
(.lt (some (.v 3,true)) .id [.v 1] 1 <|
(.lt (some (.v 3,true)) .id [.v 0] 1 <|
(.lt (some (.v 3,true)) (.bin .sub) [.v 5,.c (.int .i64 1)] 1 <|
(.call (some (.v 3,true)) 14 [.v 4,.c (.int .i64 0),.v 6] 1 [] <|
(.lt none .pick [.v 3,.v 7,.c (.bool false)] 1 <|
(.lt (some (.v 8,true)) .id [.v 2] 1 <|
(.call (some (.v 8,true)) 14 [.v 9,.c (.int .i64 1),.c (.int .i64 6)] 1 [] <|
(.lt none .pick [.v 8,.v 10,.c (.bool false)] 1 <|
(.leaf .ret [.v 11] ()))))))))))
def Dbo:Tm Unit :=
(.lt none (.bin .eql) [.v 0,.c (.int .i64 3)] 1 <|
(.lt (some (.v 1,false)) .id [.v 0] 1 <|
(.lt (some (.v 1,false)) (.bin .eql) [.v 2,.c (.int .i64 5)] 1 <|
(.lt none .pick [.v 1,.c (.bool true),.v 3] 1 <|
(.leaf .ret [.v 4] ())))))
def Dbi:Tm Unit :=
(.lt none (.bin .leq) [.v 1,.v 0] 1 <|
(.lt (some (.v 3,true)) .id [.v 0] 1 <|
(.lt (some (.v 3,true)) .id [.v 2] 1 <|
(.lt (some (.v 3,true)) (.bin .leq) [.v 4,.v 5] 1 <|
(.lt none .pick [.v 3,.v 6,.c (.bool false)] 1 <|
(.leaf .ret [.v 7] ()))))))
def Dbh:Tm Unit :=
(.call none 14 [.v 1,.c (.int .i64 0),.c (.int .i64 9999)] 1 [] <|
(.lt none .not [.v 11] 1 <|
(.lt (some (.v 12,false)) .id [.v 2] 1 <|
(.lt (some (.v 12,false)) .id [.v 1] 1 <|
(.call (some (.v 12,false)) 14 [.v 13,.c (.int .i64 0),.v 14] 1 [] <|
(.lt (some (.v 12,false)) .not [.v 15] 1 <|
(.lt none .pick [.v 12,.c (.bool true),.v 16] 1 <|
(.lt (some (.v 17,false)) .id [.v 3] 1 <|
(.call (some (.v 17,false)) 14 [.v 18,.c (.int .i64 0),.c (.int .i64 3)] 1 [] <|
(.lt (some (.v 17,false)) .not [.v 19] 1 <|
(.lt none .pick [.v 17,.c (.bool true),.v 20] 1 <|
(.call (some (.v 21,false)) 16 [.v 4,.v 5,.v 6,.v 7,.v 8] 1 [] <|
(.lt (some (.v 21,false)) .not [.v 22] 1 <|
(.lt none .pick [.v 21,.c (.bool true),.v 23] 1 <|
(.lt (some (.v 24,false)) .id [.v 0] 1 <|
(.call (some (.v 24,false)) 18 [.v 25,.v 9,.v 10] 1 [] <|
(.lt (some (.v 24,false)) .not [.v 26] 1 <|
(.lt none .pick [.v 24,.c (.bool true),.v 27] 1 <|
(.ite (.v 28)
(.leaf .ret [.c (.bool false)] ())
(.lt none (.bin .neq) [.v 3,.c (.int .i64 0)] 1 <|
(.lt (some (.v 29,false)) .id [.v 2] 1 <|
(.lt (some (.v 29,false)) (.bin .eql) [.v 30,.c (.int .i64 0)] 1 <|
(.lt (some (.v 29,false)) .id [.v 31] 1 <|
(.lt (some (.v 32,true)) (.eqs [0,0,0,0,0]) [.v 4,.v 5,.v 6,.v 7,.v 8,.c (.int .i64 0),.c (.int .i64 0),.c (.int .i64 0),.c (.int .i64 0),.c (.int .i64 0)] 1 <|
(.lt (some (.v 29,false)) .pick [.v 32,.v 33,.c (.bool false)] 1 <|
(.lt (some (.v 29,false)) .id [.v 34] 1 <|
(.lt (some (.v 35,true)) .id [.v 0] 1 <|
(.call (some (.v 35,true)) 22 [.v 36] 2 [] <|
(.call (some (.v 35,true)) 23 [.v 9,.v 10,.v 37,.v 38] 1 [] <|
(.lt (some (.v 29,false)) .pick [.v 35,.v 39,.c (.bool false)] 1 <|
(.lt none .pick [.v 29,.c (.bool true),.v 40] 1 <|
(.leaf .ret [.v 41] ()))))))))))))))))))))))))))))))))
def Dbg:Tm Unit :=
(.lt none (.bin .eql) [.v 0,.c (.int .i64 0)] 1 <|
(.ite (.v 5)
(.lt none (.eqs [0,0,0,0,0]) [.v 0,.v 1,.v 2,.v 3,.v 4,.c (.int .i64 0),.c (.int .i64 0),.c (.int .i64 0),.c (.int .i64 0),.c (.int .i64 0)] 1 <|
(.leaf .ret [.v 6] ()))
(.lt none (.bin .eql) [.v 0,.c (.int .i64 1)] 1 <|
(.ite (.v 6)
(.call none 14 [.v 1,.c (.int .i64 1),.c (.int .i64 999)] 1 [] <|
(.lt (some (.v 7,true)) .id [.v 2] 1 <|
(.call (some (.v 7,true)) 17 [.v 8] 1 [] <|
(.lt none .pick [.v 7,.v 9,.c (.bool false)] 1 <|
(.lt (some (.v 10,true)) .id [.v 3] 1 <|
(.call (some (.v 10,true)) 17 [.v 11] 1 [] <|
(.lt none .pick [.v 10,.v 12,.c (.bool false)] 1 <|
(.lt (some (.v 13,true)) .id [.v 2] 1 <|
(.lt (some (.v 13,true)) .id [.v 3] 1 <|
(.lt (some (.v 13,true)) (.bin .neq) [.v 14,.v 15] 1 <|
(.lt none .pick [.v 13,.v 16,.c (.bool false)] 1 <|
(.lt (some (.v 17,true)) .id [.v 4] 1 <|
(.call (some (.v 17,true)) 14 [.v 18,.c (.int .i64 1),.c (.int .i64 1000)] 1 [] <|
(.lt none .pick [.v 17,.v 19,.c (.bool false)] 1 <|
(.leaf .ret [.v 20] ())))))))))))))))
(.lt none (.bin .eql) [.v 0,.c (.int .i64 2)] 1 <|
(.lt (some (.v 7,true)) .id [.v 1] 1 <|
(.call (some (.v 7,true)) 14 [.v 8,.c (.int .i64 1),.c (.int .i64 999)] 1 [] <|
(.lt none .pick [.v 7,.v 9,.c (.bool false)] 1 <|
(.lt (some (.v 10,true)) .id [.v 2] 1 <|
(.call (some (.v 10,true)) 17 [.v 11] 1 [] <|
(.lt none .pick [.v 10,.v 12,.c (.bool false)] 1 <|
(.lt (some (.v 13,true)) .id [.v 3] 1 <|
(.lt (some (.v 13,true)) (.bin .eql) [.v 14,.c (.int .i64 0)] 1 <|
(.lt none .pick [.v 13,.v 15,.c (.bool false)] 1 <|
(.lt (some (.v 16,true)) .id [.v 4] 1 <|
(.lt (some (.v 16,true)) (.bin .eql) [.v 17,.c (.int .i64 0)] 1 <|
(.lt none .pick [.v 16,.v 18,.c (.bool false)] 1 <|
(.leaf .ret [.v 19] ()))))))))))))))))))
def Dbf:Tm Unit :=
(.call none 14 [.v 0,.c (.int .i64 0),.c (.int .i64 3)] 1 [] <|
(.leaf .ret [.v 1] ()))
def Dbe:Tm Unit :=
(.call none 13 [.v 0] 1 [] <|
(.lt (some (.v 3,true)) .id [.v 1] 1 <|
(.call (some (.v 3,true)) 14 [.v 4,.c (.int .i64 0),.c (.int .i64 999)] 1 [] <|
(.lt none .pick [.v 3,.v 5,.c (.bool false)] 1 <|
(.lt (some (.v 6,true)) .len [.v 2] 1 <|
(.lt (some (.v 6,true)) .id [.v 0] 1 <|
(.lt (some (.v 6,true)) (.bin .eql) [.v 7,.v 8] 1 <|
(.lt none .pick [.v 6,.v 9,.c (.bool false)] 1 <|
(.call (some (.v 10,true)) 19 [.v 2] 1 [] <|
(.lt (some (.v 10,true)) .not [.v 11] 1 <|
(.lt none .pick [.v 10,.v 12,.c (.bool false)] 1 <|
(.leaf .ret [.v 13] ()))))))))))))
def Dbd:Tm Unit :=
(.call none 20 [.v 0] 1 [] <|
(.lt none (.bin .geq) [.v 1,.c (.int .i64 0)] 1 <|
(.leaf .ret [.v 2] ())))
def Dbc:Tm Unit :=
(.lt none .len [.v 0] 1 <|
(.bind 1
(.loop [.c (.int .i64 0)]
(.lt none (.bin .lss) [.v 2,.v 1] 1 <|
(.ite (.v 3)
(.lt none .inb [.v 0,.v 2] 0 <|
(.lt none (.row 1 0 [true]) [.v 0,.v 2] 1 <|
(.call none 21 [.v 4] 1 [] <|
(.ite (.v 5)
(.leaf .ret [.v 2] ())
(.lt none (.bin .add) [.v 2,.c (.int .i64 1)] 1 <|
(.leaf .cont [.v 6] ()))))))
(.leaf (.yield 1) [] ())))) <|
(.leaf .ret [.c (.int .i64 (-1))] ())))
def Dbb:Tm Unit :=
(.call none 14 [.v 0,.c (.int .i64 0),.c (.int .i64 6)] 1 [] <|
(.lt none .not [.v 1] 1 <|
(.leaf .ret [.v 2] ())))
def Dba:Tm Unit :=
(.lt none (.make 8 [(.int .i64 0)]) [.v 0] 1 <|
(.leaf .ret [.c (.int .i64 0),.v 1] ()))
def Cb9:Tm Unit :=
(.lt none (.bin .eql) [.v 0,.v 2] 1 <|
(.call (some (.v 4,true)) 24 [.v 1,.v 3] 1 [] <|
(.lt none .pick [.v 4,.v 5,.c (.bool false)] 1 <|
(.leaf .ret [.v 6] ()))))
def Cb8:Tm Unit :=
(.lt none .len [.v 0] 1 <|
(.lt none .len [.v 1] 1 <|
(.lt none (.bin .neq) [.v 2,.v 3] 1 <|
(.ite (.v 4)
(.leaf .ret [.c (.bool false)] ())
(.lt none .len [.v 0] 1 <|
(.bind 1
(.loop [.c (.int .i64 0)]
(.lt none (.bin .lss) [.v 6,.v 5] 1 <|
(.ite (.v 7)
(.lt none .inb [.v 0,.v 6] 0 <|
(.lt none (.row 1 0 [true]) [.v 0,.v 6] 1 <|
(.lt none .inb [.v 1,.v 6] 0 <|
(.lt none (.row 1 0 [true]) [.v 1,.v 6] 1 <|
(.lt none (.bin .neq) [.v 8,.v 9] 1 <|
(.ite (.v 10)
(.leaf .ret [.c (.bool false)] ())
(.lt none (.bin .add) [.v 6,.c (.int .i64 1)] 1 <|
(.leaf .cont [.v 11] ()))))))))
(.leaf (.yield 1) [] ())))) <|
(.leaf .ret [.c (.bool true)] ())))))))
def Cb7:Tm Unit :=
(.lt none (.mk 1 5) [.v 0,.v 1,.v 2,.v 3,.v 4] 1 <|
(.call none 26 [.v 12] 1 [] <|
(.lt none (.bin .add) [.v 13,.c (.str [124])] 1 <|
(.call none 38 [.v 5,.v 6,.v 7,.v 8,.v 9] 1 [] <|
(.lt none (.bin .add) [.v 14,.v 15] 1 <|
(.lt none (.bin .add) [.v 16,.c (.str [124])] 1 <|
(.call none 39 [.v 10,.v 11] 1 [] <|
(.lt none (.bin .add) [.v 17,.v 18] 1 <|
(.leaf .ret [.v 19] ())))))))))
def Cb6:Tm Unit :=
(.call none 27 [.c (.str [32]),.v 0] 1 [] <|
(.leaf .ret [.v 1] ()))
def Cb5:Tm Unit :=
(.lt none (.mk 1 0) [] 1 <|
(.lt none .len [.v 1] 1 <|
(.bind 1
(.loop [.v 2,.c (.int .i64 0)]
(.lt none (.bin .lss) [.v 5,.v 3] 1 <|
(.ite (.v 6)
(.lt none .inb [.v 1,.v 5] 0 <|
(.lt none (.row 1 0 [true]) [.v 1,.v 5] 1 <|
(.call none 28 [.v 7] 1 [] <|
(.lt none (.mk 1 1) [.v 8] 1 <|
(.lt none (.app 1 16 true) [.v 4,.v 9] 1 <|
(.lt none (.bin .add) [.v 5,.c (.int .i64 1)] 1 <|
(.leaf .cont [.v 10,.v 11] ())))))))
(.leaf (.yield 1) [.v 4] ())))) <|
(.call none 33 [.v 4,.v 0] 1 [] <|
(.leaf .ret [.v 5] ())))))
def Cb4:Tm Unit :=
(.call none 29 [.v 0] 1 [] <|
(.leaf .ret [.v 1] ()))
def Cb3:Tm Unit :=
(.call none 30 [.v 0,.c (.int .i64 10)] 1 [] <|
(.leaf .ret [.v 1] ()))
def Ib8:Tm Unit:=.stuck
def Ib7:Tm Unit:=.stuck
def Cb2:Tm Unit :=
(.lt none (.bin .eql) [.v 0,.c (.int .i64 1)] 1 <|
(.ite (.v 5)
(.lt none (.mk 1 4) [.v 1,.v 2,.v 3,.v 4] 1 <|
(.call none 26 [.v 6] 1 [] <|
(.lt none (.bin .add) [.c (.str [109,111,118,101,32]),.v 7] 1 <|
(.leaf .ret [.v 8] ()))))
(.lt none (.bin .eql) [.v 0,.c (.int .i64 2)] 1 <|
(.ite (.v 6)
(.lt none (.mk 1 2) [.v 1,.v 2] 1 <|
(.call none 26 [.v 7] 1 [] <|
(.lt none (.bin .add) [.c (.str [114,101,97,100,32]),.v 8] 1 <|
(.leaf .ret [.v 9] ()))))
(.leaf .ret [.c (.str [45])] ())))))
def Cb1:Tm Unit :=
(.call none 28 [.v 0] 1 [] <|
(.lt none (.bin .add) [.v 2,.c (.str [58])] 1 <|
(.call none 27 [.c (.str [44]),.v 1] 1 [] <|
(.lt none (.bin .add) [.v 3,.v 4] 1 <|
(.leaf .ret [.v 5] ())))))
def Cb0:Tm Unit :=
(.call none 41 [.v 0] 1 [] <|
(.lt none .not [.v 13] 1 <|
(.lt (some (.v 14,false)) .id [.v 0] 1 <|
(.lt (some (.v 14,false)) .id [.v 1] 1 <|
(.lt (some (.v 14,false)) .id [.v 2] 1 <|
(.call (some (.v 14,false)) 42 [.v 15,.v 16,.v 17] 1 [] <|
(.lt (some (.v 14,false)) .not [.v 18] 1 <|
(.lt none .pick [.v 14,.c (.bool true),.v 19] 1 <|
(.lt (some (.v 20,false)) .id [.v 0] 1 <|
(.call (some (.v 20,false)) 44 [.v 21,.v 3,.v 4,.v 5,.v 6,.v 7,.v 8,.v 9,.v 10,.v 11,.v 12] 1 [] <|
(.lt (some (.v 20,false)) .not [.v 22] 1 <|
(.lt none .pick [.v 20,.c (.bool true),.v 23] 1 <|
(.ite (.v 24)
(.leaf .ret [.c (.str []),.c (.bool false)] ())
(.call none 52 [.v 1,.v 2,.v 3,.v 4,.v 5,.v 6,.v 7,.v 8,.v 9,.v 10,.v 11,.v 12] 1 [] <|
(.leaf .ret [.v 25,.c (.bool true)] ())))))))))))))))
def Cbz:Tm Unit :=
(.lt none (.bin .eql) [.v 0,.c (.int .i64 3)] 1 <|
(.lt (some (.v 1,false)) .id [.v 0] 1 <|
(.lt (some (.v 1,false)) (.bin .eql) [.v 2,.c (.int .i64 5)] 1 <|
(.lt none .pick [.v 1,.c (.bool true),.v 3] 1 <|
(.leaf .ret [.v 4] ())))))
def Cby:Tm Unit :=
(.lt none (.bin .sub) [.v 0,.c (.int .i64 1)] 1 <|
(.call none 43 [.v 1,.c (.int .i64 0),.v 3] 1 [] <|
(.lt (some (.v 4,true)) .id [.v 2] 1 <|
(.call (some (.v 4,true)) 43 [.v 5,.c (.int .i64 1),.c (.int .i64 6)] 1 [] <|
(.lt none .pick [.v 4,.v 6,.c (.bool false)] 1 <|
(.leaf .ret [.v 7] ()))))))
def Cbx:Tm Unit :=
(.lt none (.bin .geq) [.v 0,.v 1] 1 <|
(.lt (some (.v 3,true)) .id [.v 0] 1 <|
(.lt (some (.v 3,true)) .id [.v 2] 1 <|
(.lt (some (.v 3,true)) (.bin .leq) [.v 4,.v 5] 1 <|
(.lt none .pick [.v 3,.v 6,.c (.bool false)] 1 <|
(.leaf .ret [.v 7] ()))))))
def Cbw:Tm Unit :=
(.call none 43 [.v 1,.c (.int .i64 0),.c (.int .i64 9999)] 1 [] <|
(.lt none .not [.v 11] 1 <|
(.lt (some (.v 12,false)) .id [.v 2] 1 <|
(.lt (some (.v 12,false)) .id [.v 1] 1 <|
(.call (some (.v 12,false)) 43 [.v 13,.c (.int .i64 0),.v 14] 1 [] <|
(.lt (some (.v 12,false)) .not [.v 15] 1 <|
(.lt none .pick [.v 12,.c (.bool true),.v 16] 1 <|
(.lt (some (.v 17,false)) .id [.v 3] 1 <|
(.call (some (.v 17,false)) 43 [.v 18,.c (.int .i64 0),.c (.int .i64 3)] 1 [] <|
(.lt (some (.v 17,false)) .not [.v 19] 1 <|
(.lt none .pick [.v 17,.c (.bool true),.v 20] 1 <|
(.ite (.v 21)
(.leaf .ret [.c (.bool false)] ())
(.lt none (.bin .eql) [.v 3,.c (.int .i64 0)] 1 <|
(.ite (.v 22)
(.lt none (.bin .eql) [.v 2,.c (.int .i64 0)] 1 <|
(.lt (some (.v 23,true)) (.eqs [0,0,0,0,0]) [.v 4,.v 5,.v 6,.v 7,.v 8,.c (.int .i64 0),.c (.int .i64 0),.c (.int .i64 0),.c (.int .i64 0),.c (.int .i64 0)] 1 <|
(.lt none .pick [.v 23,.v 24,.c (.bool false)] 1 <|
(.lt (some (.v 25,true)) .id [.v 0] 1 <|
(.call (some (.v 25,true)) 10 [.v 26] 2 [] <|
(.call (some (.v 25,true)) 45 [.v 9,.v 10,.v 27,.v 28] 1 [] <|
(.lt none .pick [.v 25,.v 29,.c (.bool false)] 1 <|
(.leaf .ret [.v 30] ()))))))))
(.call none 47 [.v 4,.v 5,.v 6,.v 7,.v 8] 1 [] <|
(.lt (some (.v 23,true)) .id [.v 0] 1 <|
(.call (some (.v 23,true)) 50 [.v 24,.v 9,.v 10] 1 [] <|
(.lt none .pick [.v 23,.v 25,.c (.bool false)] 1 <|
(.leaf .ret [.v 26] ())))))))))))))))))))
def Cbv:Tm Unit :=
(.lt none (.bin .eql) [.v 0,.v 2] 1 <|
(.call (some (.v 4,true)) 46 [.v 1,.v 3] 1 [] <|
(.lt none .pick [.v 4,.v 5,.c (.bool false)] 1 <|
(.leaf .ret [.v 6] ()))))
def Cbu:Tm Unit :=
(.lt none .len [.v 0] 1 <|
(.lt none .len [.v 1] 1 <|
(.lt none (.bin .neq) [.v 2,.v 3] 1 <|
(.ite (.v 4)
(.leaf .ret [.c (.bool false)] ())
(.lt none .len [.v 0] 1 <|
(.bind 1
(.loop [.c (.int .i64 0)]
(.lt none (.bin .lss) [.v 6,.v 5] 1 <|
(.ite (.v 7)
(.lt none .inb [.v 0,.v 6] 0 <|
(.lt none (.row 1 0 [true]) [.v 0,.v 6] 1 <|
(.lt none .inb [.v 1,.v 6] 0 <|
(.lt none (.row 1 0 [true]) [.v 1,.v 6] 1 <|
(.lt none (.bin .neq) [.v 8,.v 9] 1 <|
(.ite (.v 10)
(.leaf .ret [.c (.bool false)] ())
(.lt none (.bin .add) [.v 6,.c (.int .i64 1)] 1 <|
(.leaf .cont [.v 11] ()))))))))
(.leaf (.yield 1) [] ())))) <|
(.leaf .ret [.c (.bool true)] ())))))))
def Cbt:Tm Unit :=
(.lt none (.bin .eql) [.v 0,.c (.int .i64 0)] 1 <|
(.ite (.v 5)
(.lt none (.eqs [0,0,0,0,0]) [.v 0,.v 1,.v 2,.v 3,.v 4,.c (.int .i64 0),.c (.int .i64 0),.c (.int .i64 0),.c (.int .i64 0),.c (.int .i64 0)] 1 <|
(.leaf .ret [.v 6] ()))
(.lt none (.bin .eql) [.v 0,.c (.int .i64 1)] 1 <|
(.ite (.v 6)
(.call none 48 [.v 0,.v 1,.v 2,.v 3,.v 4] 1 [] <|
(.lt none (.bin .eql) [.v 7,.c (.int .i64 0)] 1 <|
(.leaf .ret [.v 8] ())))
(.lt none (.bin .eql) [.v 0,.c (.int .i64 2)] 1 <|
(.ite (.v 7)
(.call none 48 [.v 0,.v 1,.v 2,.v 3,.v 4] 1 [] <|
(.lt none (.bin .eql) [.v 8,.c (.int .i64 0)] 1 <|
(.lt (some (.v 9,true)) .id [.v 3] 1 <|
(.lt (some (.v 9,true)) (.bin .eql) [.v 10,.c (.int .i64 0)] 1 <|
(.lt none .pick [.v 9,.v 11,.c (.bool false)] 1 <|
(.lt (some (.v 12,true)) .id [.v 4] 1 <|
(.lt (some (.v 12,true)) (.bin .eql) [.v 13,.c (.int .i64 0)] 1 <|
(.lt none .pick [.v 12,.v 14,.c (.bool false)] 1 <|
(.leaf .ret [.v 15] ())))))))))
(.leaf .ret [.c (.bool false)] ())))))))
def Cbs:Tm Unit :=
(.lt none (.bin .eql) [.v 0,.c (.int .i64 1)] 1 <|
(.call none 49 [.v 2] 1 [] <|
(.lt none .not [.v 6] 1 <|
(.lt (some (.v 7,false)) .id [.v 5] 1 <|
(.lt (some (.v 7,false)) .id [.v 8] 1 <|
(.lt (some (.v 9,true)) .id [.v 3] 1 <|
(.call (some (.v 9,true)) 49 [.v 10] 1 [] <|
(.lt (some (.v 9,true)) .not [.v 11] 1 <|
(.lt (some (.v 7,false)) .pick [.v 9,.v 12,.c (.bool false)] 1 <|
(.lt none .pick [.v 7,.c (.bool true),.v 13] 1 <|
(.ite (.v 14)
(.leaf .ret [.c (.int .i64 4)] ())
(.lt (some (.v 5,true)) .id [.v 2] 1 <|
(.lt (some (.v 5,true)) .id [.v 3] 1 <|
(.lt (some (.v 5,true)) (.bin .eql) [.v 15,.v 16] 1 <|
(.lt none .pick [.v 5,.v 17,.c (.bool false)] 1 <|
(.ite (.v 18)
(.leaf .ret [.c (.int .i64 5)] ())
(.call none 43 [.v 1,.c (.int .i64 1),.c (.int .i64 999)] 1 [] <|
(.lt none .not [.v 19] 1 <|
(.lt (some (.v 20,false)) .id [.v 5] 1 <|
(.lt (some (.v 20,false)) .id [.v 21] 1 <|
(.lt (some (.v 22,true)) .id [.v 4] 1 <|
(.call (some (.v 22,true)) 43 [.v 23,.c (.int .i64 1),.c (.int .i64 1000)] 1 [] <|
(.lt (some (.v 22,true)) .not [.v 24] 1 <|
(.lt (some (.v 20,false)) .pick [.v 22,.v 25,.c (.bool false)] 1 <|
(.lt none .pick [.v 20,.c (.bool true),.v 26] 1 <|
(.ite (.v 27)
(.leaf .ret [.c (.int .i64 6)] ())
(.leaf .ret [.c (.int .i64 0)] ())))))))))))))))))))))))))))
def Cbr:Tm Unit :=
(.call none 43 [.v 0,.c (.int .i64 0),.c (.int .i64 3)] 1 [] <|
(.leaf .ret [.v 1] ()))
def Cbq:Tm Unit :=
(.call none 43 [.v 1,.c (.int .i64 0),.c (.int .i64 999)] 1 [] <|
(.lt (some (.v 3,true)) .len [.v 2] 1 <|
(.lt (some (.v 3,true)) .id [.v 0] 1 <|
(.lt (some (.v 3,true)) (.bin .eql) [.v 4,.v 5] 1 <|
(.lt none .pick [.v 3,.v 6,.c (.bool false)] 1 <|
(.call (some (.v 7,true)) 51 [.v 2,.c (.int .i64 0),.c (.int .i64 6)] 1 [] <|
(.lt none .pick [.v 7,.v 8,.c (.bool false)] 1 <|
(.leaf .ret [.v 9] ()))))))))
def Ib6:Tm Unit :=
(.lt none .len [.v 0] 1 <|
(.bind 1
(.loop [.c (.int .i64 0)]
(.lt none (.bin .lss) [.v 4,.v 3] 1 <|
(.ite (.v 5)
(.lt none .inb [.v 0,.v 4] 0 <|
(.lt none (.row 1 0 [true]) [.v 0,.v 4] 1 <|
(.call none 43 [.v 6,.v 1,.v 2] 1 [] <|
(.lt none .not [.v 7] 1 <|
(.ite (.v 8)
(.leaf .ret [.c (.bool false)] ())
(.lt none (.bin .add) [.v 4,.c (.int .i64 1)] 1 <|
(.leaf .cont [.v 9] ())))))))
(.leaf (.yield 1) [] ())))) <|
(.leaf .ret [.c (.bool true)] ())))
def Mby:Tm Unit :=
(.call none 53 [.v 0] 1 [] <|
(.lt none (.mk 1 4) [.v 1,.v 2,.v 3,.v 4] 1 <|
(.lt none .len [.v 13] 1 <|
(.bind 1
(.loop [.v 12,.c (.int .i64 0)]
(.lt none (.bin .lss) [.v 16,.v 14] 1 <|
(.ite (.v 17)
(.lt none .inb [.v 13,.v 16] 0 <|
(.lt none (.row 1 0 [true]) [.v 13,.v 16] 1 <|
(.call none 53 [.v 18] 1 [] <|
(.lt none (.bin .add) [.c (.str [32]),.v 19] 1 <|
(.lt none (.bin .add) [.v 15,.v 20] 1 <|
(.lt none (.bin .add) [.v 16,.c (.int .i64 1)] 1 <|
(.leaf .cont [.v 21,.v 22] ())))))))
(.leaf (.yield 1) [.v 15] ())))) <|
(.lt none (.bin .add) [.v 15,.c (.str [124])] 1 <|
(.call none 54 [.v 5,.v 6,.v 7,.v 8,.v 9] 1 [] <|
(.lt none (.bin .add) [.v 16,.v 17] 1 <|
(.lt none (.bin .add) [.v 18,.c (.str [124])] 1 <|
(.call none 55 [.v 10,.v 11] 1 [] <|
(.lt none (.bin .add) [.v 19,.v 20] 1 <|
(.leaf .ret [.v 21] ())))))))))))
def Mbx:Tm Unit :=
(.lt none (.bin .lss) [.v 0,.c (.int .i64 10)] 1 <|
(.ite (.v 1)
(.lt none (.bin .add) [.c (.int .i64 48),.v 0] 1 <|
(.lt none (.conv .u8) [.v 2] 1 <|
(.lt none (.mk 1 1) [.v 3] 1 <|
(.lt none .bstr [.v 4] 1 <|
(.leaf .ret [.v 5] ())))))
(.lt none (.bin .quo) [.v 0,.c (.int .i64 10)] 1 <|
(.call none 53 [.v 2] 1 [] <|
(.lt none (.bin .rem) [.v 0,.c (.int .i64 10)] 1 <|
(.lt none (.bin .add) [.c (.int .i64 48),.v 4] 1 <|
(.lt none (.conv .u8) [.v 5] 1 <|
(.lt none (.mk 1 1) [.v 6] 1 <|
(.lt none .bstr [.v 7] 1 <|
(.lt none (.bin .add) [.v 3,.v 8] 1 <|
(.leaf .ret [.v 9] ())))))))))))
def Ib5:Tm Unit :=
(.lt none (.bin .eql) [.v 0,.c (.int .i64 1)] 1 <|
(.ite (.v 5)
(.call none 53 [.v 1] 1 [] <|
(.lt none (.bin .add) [.c (.str [109,111,118,101,32]),.v 6] 1 <|
(.lt none (.bin .add) [.v 7,.c (.str [32])] 1 <|
(.call none 53 [.v 2] 1 [] <|
(.lt none (.bin .add) [.v 8,.v 9] 1 <|
(.lt none (.bin .add) [.v 10,.c (.str [32])] 1 <|
(.call none 53 [.v 3] 1 [] <|
(.lt none (.bin .add) [.v 11,.v 12] 1 <|
(.lt none (.bin .add) [.v 13,.c (.str [32])] 1 <|
(.call none 53 [.v 4] 1 [] <|
(.lt none (.bin .add) [.v 14,.v 15] 1 <|
(.leaf .ret [.v 16] ()))))))))))))
(.lt none (.bin .eql) [.v 0,.c (.int .i64 2)] 1 <|
(.ite (.v 6)
(.call none 53 [.v 1] 1 [] <|
(.lt none (.bin .add) [.c (.str [114,101,97,100,32]),.v 7] 1 <|
(.lt none (.bin .add) [.v 8,.c (.str [32])] 1 <|
(.call none 53 [.v 2] 1 [] <|
(.lt none (.bin .add) [.v 9,.v 10] 1 <|
(.leaf .ret [.v 11] ()))))))
(.leaf .ret [.c (.str [45])] ())))))
def Mbw:Tm Unit :=
(.call none 53 [.v 0] 1 [] <|
(.lt none (.bin .add) [.v 2,.c (.str [58])] 1 <|
(.call none 56 [.v 1] 1 [] <|
(.lt none (.bin .add) [.v 3,.v 4] 1 <|
(.leaf .ret [.v 5] ())))))
def Mbv:Tm Unit :=
(.lt none .len [.v 0] 1 <|
(.bind 1
(.loop [.c (.str []),.c (.int .i64 0)]
(.lt none (.bin .lss) [.v 3,.v 1] 1 <|
(.ite (.v 4)
(.lt none .inb [.v 0,.v 3] 0 <|
(.lt none (.row 1 0 [true]) [.v 0,.v 3] 1 <|
(.bind 0
(.lt none (.bin .gtr) [.v 3,.c (.int .i64 0)] 1 <|
(.ite (.v 6)
(.lt none (.bin .add) [.v 2,.c (.str [44])] 1 <|
(.leaf (.yield 0) [.v 7] ()))
(.leaf (.yield 0) [.v 2] ()))) <|
(.call none 53 [.v 5] 1 [] <|
(.lt none (.bin .add) [.v 6,.v 7] 1 <|
(.lt none (.bin .add) [.v 3,.c (.int .i64 1)] 1 <|
(.leaf .cont [.v 8,.v 9] ())))))))
(.leaf (.yield 1) [.v 2] ())))) <|
(.leaf .ret [.v 2] ())))
def Mbu:Tm Unit :=
(.call none 58 [.v 1,.c (.str [124])] 1 [] <|
(.lt none .len [.v 2] 1 <|
(.lt none (.bin .neq) [.v 3,.c (.int .i64 3)] 1 <|
(.ite (.v 4)
(.leaf .ret [.c (.int .i64 0),.c (.int .i64 0),.c (.int .i64 0),.c (.int .i64 0),.c (.int .i64 0),.c (.int .i64 0),.c (.int .i64 0),.c (.int .i64 0),.c (.int .i64 0),.c (.int .i64 0),.c (.int .i64 0),.c (.rows 1 []),.c (.bool false)] ())
(.lt none .inb [.v 2,.c (.int .i64 0)] 0 <|
(.lt none (.row 1 0 [true]) [.v 2,.c (.int .i64 0)] 1 <|
(.call none 58 [.v 5,.c (.str [32])] 1 [] <|
(.call none 70 [.v 6,.c (.int .i64 4)] 2 [] <|
(.lt none (.dep 99) [.v 7] 0 <|
(.lt none .inb [.v 2,.c (.int .i64 1)] 0 <|
(.lt none (.row 1 0 [true]) [.v 2,.c (.int .i64 1)] 1 <|
(.call none 72 [.v 9] 7 [] <|
(.lt none .inb [.v 2,.c (.int .i64 2)] 0 <|
(.lt none (.row 1 0 [true]) [.v 2,.c (.int .i64 2)] 1 <|
(.call none 74 [.v 0,.v 17] 3 [] <|
(.lt none .not [.v 8] 1 <|
(.lt (some (.v 21,false)) .id [.v 16] 1 <|
(.lt (some (.v 21,false)) .not [.v 22] 1 <|
(.lt none .pick [.v 21,.c (.bool true),.v 23] 1 <|
(.lt (some (.v 24,false)) .id [.v 20] 1 <|
(.lt (some (.v 24,false)) .not [.v 25] 1 <|
(.lt none .pick [.v 24,.c (.bool true),.v 26] 1 <|
(.lt (some (.v 27,false)) .len [.v 7] 1 <|
(.lt (some (.v 27,false)) (.bin .neq) [.v 28,.c (.int .i64 5)] 1 <|
(.lt none .pick [.v 27,.c (.bool true),.v 29] 1 <|
(.ite (.v 30)
(.leaf .ret [.c (.int .i64 0),.c (.int .i64 0),.c (.int .i64 0),.c (.int .i64 0),.c (.int .i64 0),.c (.int .i64 0),.c (.int .i64 0),.c (.int .i64 0),.c (.int .i64 0),.c (.int .i64 0),.c (.int .i64 0),.c (.rows 1 []),.c (.bool false)] ())
(.lt none .inb [.v 7,.c (.int .i64 2)] 0 <|
(.lt none (.row 1 0 [true]) [.v 7,.c (.int .i64 2)] 1 <|
(.lt none .inb [.v 7,.c (.int .i64 3)] 0 <|
(.lt none (.row 1 0 [true]) [.v 7,.c (.int .i64 3)] 1 <|
(.lt none .inb [.v 7,.c (.int .i64 4)] 0 <|
(.lt none (.row 1 0 [true]) [.v 7,.c (.int .i64 4)] 1 <|
(.lt none .inb [.v 7,.c (.int .i64 0)] 0 <|
(.lt none (.row 1 0 [true]) [.v 7,.c (.int .i64 0)] 1 <|
(.lt none .inb [.v 7,.c (.int .i64 1)] 0 <|
(.lt none (.row 1 0 [true]) [.v 7,.c (.int .i64 1)] 1 <|
(.call none 12 [.v 0,.v 34,.v 35] 1 [] <|
(.lt none .not [.v 36] 1 <|
(.lt (some (.v 37,false)) .id [.v 0] 1 <|
(.call (some (.v 37,false)) 15 [.v 38,.v 31,.v 32,.v 33,.v 10,.v 11,.v 12,.v 13,.v 14,.v 18,.v 19] 1 [] <|
(.lt (some (.v 37,false)) .not [.v 39] 1 <|
(.lt none .pick [.v 37,.c (.bool true),.v 40] 1 <|
(.ite (.v 41)
(.leaf .ret [.c (.int .i64 0),.c (.int .i64 0),.c (.int .i64 0),.c (.int .i64 0),.c (.int .i64 0),.c (.int .i64 0),.c (.int .i64 0),.c (.int .i64 0),.c (.int .i64 0),.c (.int .i64 0),.c (.int .i64 0),.c (.rows 1 []),.c (.bool false)] ())
(.lt none .inb [.v 7,.c (.int .i64 0)] 0 <|
(.lt none (.row 1 0 [true]) [.v 7,.c (.int .i64 0)] 1 <|
(.lt none .inb [.v 7,.c (.int .i64 1)] 0 <|
(.lt none (.row 1 0 [true]) [.v 7,.c (.int .i64 1)] 1 <|
(.leaf .ret [.v 42,.v 43,.v 31,.v 32,.v 33,.v 10,.v 11,.v 12,.v 13,.v 14,.v 18,.v 19,.c (.bool true)] ()))))))))))))))))))))))))))))))))))))))))))))))))
def Mbt:Tm Unit :=
(.call none 59 [.v 0,.v 1,.c (.int .i64 0),.c (.int .i64 (-1))] 1 [] <|
(.leaf .ret [.v 2] ()))
def Cbp:Tm Unit :=
(.lt none (.bin .eql) [.v 3,.c (.int .i64 0)] 1 <|
(.ite (.v 4)
(.leaf .ret [.c (.rows 1 [])] ())
(.lt none (.bin .eql) [.v 1,.c (.str [])] 1 <|
(.ite (.v 5)
(.call none 60 [.v 0,.v 3] 1 [] <|
(.leaf .ret [.v 6] ()))
(.bind 0
(.lt none (.bin .lss) [.v 3,.c (.int .i64 0)] 1 <|
(.ite (.v 6)
(.call none 64 [.v 0,.v 1] 1 [] <|
(.lt none (.bin .add) [.v 7,.c (.int .i64 1)] 1 <|
(.leaf (.yield 0) [.v 8] ())))
(.leaf (.yield 0) [.v 3] ()))) <|
(.lt none .slen [.v 0] 1 <|
(.lt none (.bin .add) [.v 7,.c (.int .i64 1)] 1 <|
(.lt none .min [.v 6,.v 8] 1 <|
(.lt none (.make 16 [(.str [])]) [.v 9] 1 <|
(.lt none (.bin .sub) [.v 9,.c (.int .i64 1)] 1 <|
(.bind 1
(.loop [.v 0,.v 10,.c (.int .i64 0)]
(.lt none (.bin .lss) [.v 14,.v 11] 1 <|
(.ite (.v 15)
(.call none 66 [.v 12,.v 1] 1 [] <|
(.lt none (.bin .lss) [.v 16,.c (.int .i64 0)] 1 <|
(.ite (.v 17)
(.leaf (.yield 1) [.v 12,.v 13,.v 14] ())
(.lt none (.bin .add) [.v 16,.v 2] 1 <|
(.lt none .ssub [.v 12,.c (.int .i64 0),.v 18] 1 <|
(.lt none .inb [.v 13,.v 14] 0 <|
(.lt none (.set 1 0 1) [.v 13,.v 14,.v 19] 1 <|
(.lt none .slen [.v 1] 1 <|
(.lt none (.bin .add) [.v 16,.v 21] 1 <|
(.lt none .slen [.v 12] 1 <|
(.lt none .ssub [.v 12,.v 22,.v 23] 1 <|
(.lt none (.bin .add) [.v 14,.c (.int .i64 1)] 1 <|
(.leaf .cont [.v 24,.v 20,.v 25] ())))))))))))))
(.leaf (.yield 1) [.v 12,.v 13,.v 14] ())))) <|
(.lt none .inb [.v 13,.v 14] 0 <|
(.lt none (.set 1 0 1) [.v 13,.v 14,.v 12] 1 <|
(.lt none (.bin .add) [.v 14,.c (.int .i64 1)] 1 <|
(.lt none (.sub 1 false) [.v 15,.c (.int .i64 0),.v 16] 1 <|
(.leaf .ret [.v 17] ()))))))))))))))))
def Gbk:Tm Unit :=
(.call none 61 [.v 0] 1 [] <|
(.bind 0
(.lt none (.bin .lss) [.v 1,.c (.int .i64 0)] 1 <|
(.lt (some (.v 3,false)) .id [.v 1] 1 <|
(.lt (some (.v 3,false)) .id [.v 2] 1 <|
(.lt (some (.v 3,false)) (.bin .gtr) [.v 4,.v 5] 1 <|
(.lt none .pick [.v 3,.c (.bool true),.v 6] 1 <|
(.ite (.v 7)
(.leaf (.yield 0) [.v 2] ())
(.leaf (.yield 0) [.v 1] ()))))))) <|
(.lt none (.make 16 [(.str [])]) [.v 3] 1 <|
(.bind 1
(.loop [.v 0,.v 4,.c (.int .i64 0)]
(.lt none (.bin .sub) [.v 3,.c (.int .i64 1)] 1 <|
(.lt none (.bin .lss) [.v 7,.v 8] 1 <|
(.ite (.v 9)
(.call none 62 [.v 5] 2 [] <|
(.lt none .ssub [.v 5,.c (.int .i64 0),.v 11] 1 <|
(.lt none .inb [.v 6,.v 7] 0 <|
(.lt none (.set 1 0 1) [.v 6,.v 7,.v 12] 1 <|
(.lt none .slen [.v 5] 1 <|
(.lt none .ssub [.v 5,.v 11,.v 14] 1 <|
(.lt none (.bin .add) [.v 7,.c (.int .i64 1)] 1 <|
(.leaf .cont [.v 15,.v 13,.v 16] ()))))))))
(.leaf (.yield 1) [.v 5,.v 6] ()))))) <|
(.bind 0
(.lt none (.bin .gtr) [.v 3,.c (.int .i64 0)] 1 <|
(.ite (.v 7)
(.lt none (.bin .sub) [.v 3,.c (.int .i64 1)] 1 <|
(.lt none .inb [.v 6,.v 8] 0 <|
(.lt none (.set 1 0 1) [.v 6,.v 8,.v 5] 1 <|
(.leaf (.yield 0) [.v 9] ()))))
(.leaf (.yield 0) [.v 6] ()))) <|
(.leaf .ret [.v 7] ()))))))
def Gbj:Tm Unit :=
  .stuck
def Gbi:Tm Unit :=
(.lt none (.bin .neq) [.v 0,.c (.str [])] 1 <|
(.lt (some (.v 1,true)) .id [.v 0] 1 <|
(.lt (some (.v 1,true)) .sidx [.v 2,.c (.int .i64 0)] 1 <|
(.lt (some (.v 1,true)) (.bin .lss) [.v 3,.c (.int .u8 128)] 1 <|
(.lt none .pick [.v 1,.v 4,.c (.bool false)] 1 <|
(.ite (.v 5)
(.lt none .sidx [.v 0,.c (.int .i64 0)] 1 <|
(.lt none (.conv .i32) [.v 6] 1 <|
(.leaf .ret [.v 7,.c (.int .i64 1)] ())))
(.call none 63 [.v 0] 2 [] <|
(.leaf .ret [.v 6,.v 7] ()))))))))
def Gbh:Tm Unit :=
(.lt none .slen [.v 0] 1 <|
(.lt none (.bin .lss) [.v 1,.c (.int .i64 1)] 1 <|
(.ite (.v 2)
(.leaf .ret [.c (.int .i32 65533),.c (.int .i64 0)] ())
(.lt none .sidx [.v 0,.c (.int .i64 0)] 1 <|
   .stuck))))
def Cbo:Tm Unit :=
(.lt none .slen [.v 1] 1 <|
(.lt none (.bin .eql) [.v 2,.c (.int .i64 0)] 1 <|
(.ite (.v 3)
(.call none 61 [.v 0] 1 [] <|
(.lt none (.bin .add) [.v 4,.c (.int .i64 1)] 1 <|
(.leaf .ret [.v 5] ())))
(.lt none .slen [.v 1] 1 <|
(.lt none (.bin .eql) [.v 4,.c (.int .i64 1)] 1 <|
(.ite (.v 5)
(.lt none .sidx [.v 1,.c (.int .i64 0)] 1 <|
(.call none 65 [.v 0,.v 6] 1 [] <|
(.leaf .ret [.v 7] ())))
(.loop [.v 0,.c (.int .i64 0)]
(.call none 66 [.v 6,.v 1] 1 [] <|
(.lt none (.bin .eql) [.v 8,.c (.int .i64 (-1))] 1 <|
(.ite (.v 9)
(.leaf .ret [.v 7] ())
(.lt none (.bin .add) [.v 7,.c (.int .i64 1)] 1 <|
(.lt none .slen [.v 1] 1 <|
(.lt none (.bin .add) [.v 8,.v 11] 1 <|
(.lt none .slen [.v 6] 1 <|
(.lt none .ssub [.v 6,.v 12,.v 13] 1 <|
(.leaf .cont [.v 14,.v 10] ()))))))))))))))))
def Ib4:Tm Unit:=.stuck
def Cbn:Tm Unit :=
(.call none 67 [.v 0,.v 1] 1 [] <|
(.leaf .ret [.v 2] ()))
def Cbm:Tm Unit :=
(.lt none .slen [.v 1] 1 <|
(.lt none (.bin .eql) [.v 2,.c (.int .i64 0)] 1 <|
(.lt (some (.v 3,false)) .id [.v 1] 1 <|
(.lt (some (.v 3,false)) .id [.v 0] 1 <|
(.lt (some (.v 3,false)) (.bin .eql) [.v 4,.v 5] 1 <|
(.lt none .pick [.v 3,.c (.bool true),.v 6] 1 <|
(.ite (.v 7)
(.leaf .ret [.c (.int .i64 0)] ())
(.lt none (.bin .eql) [.v 2,.c (.int .i64 1)] 1 <|
(.ite (.v 8)
(.lt none .sidx [.v 1,.c (.int .i64 0)] 1 <|
(.call none 68 [.v 0,.v 9] 1 [] <|
(.leaf .ret [.v 10] ())))
(.lt none .slen [.v 0] 1 <|
(.lt none (.bin .geq) [.v 2,.v 9] 1 <|
(.ite (.v 10)
(.leaf .ret [.c (.int .i64 (-1))] ())
     .stuck))))))))))))
def Cbl:Tm Unit :=
(.call none 69 [.v 0,.v 1] 1 [] <|
(.leaf .ret [.v 2] ()))
def Ib3:Tm Unit:=.stuck
def Cbk:Tm Unit :=
(.lt none (.mk 1 0) [] 1 <|
(.lt none .len [.v 0] 1 <|
(.bind 1
(.loop [.v 2,.c (.int .i64 0)]
(.lt none (.bin .lss) [.v 5,.v 3] 1 <|
(.ite (.v 6)
(.lt none .inb [.v 0,.v 5] 0 <|
(.lt none (.row 1 0 [true]) [.v 0,.v 5] 1 <|
(.call none 71 [.v 7,.v 1] 1 [] <|
(.lt none (.bin .lss) [.v 8,.c (.int .i64 0)] 1 <|
(.ite (.v 9)
(.leaf .ret [.c (.rows 1 []),.c (.bool false)] ())
(.lt none (.mk 1 1) [.v 8] 1 <|
(.lt none (.app 1 8 true) [.v 4,.v 10] 1 <|
(.lt none (.bin .add) [.v 5,.c (.int .i64 1)] 1 <|
(.leaf .cont [.v 11,.v 12] ())))))))))
(.leaf (.yield 1) [.v 4] ())))) <|
(.leaf .ret [.v 4,.c (.bool true)] ()))))
def Cbj:Tm Unit :=
(.lt none .slen [.v 0] 1 <|
(.bind 1
(.loop [.c (.int .i64 0),.c (.int .i64 0)]
(.lt none (.bin .lss) [.v 4,.v 2] 1 <|
(.ite (.v 5)
(.lt none .sidx [.v 0,.v 4] 1 <|
(.lt none (.bin .lss) [.v 6,.c (.int .u8 48)] 1 <|
(.lt (some (.v 7,false)) .id [.v 0] 1 <|
(.lt (some (.v 7,false)) .id [.v 4] 1 <|
(.lt (some (.v 7,false)) .sidx [.v 8,.v 9] 1 <|
(.lt (some (.v 7,false)) (.bin .gtr) [.v 10,.c (.int .u8 57)] 1 <|
(.lt none .pick [.v 7,.c (.bool true),.v 11] 1 <|
(.lt (some (.v 12,false)) .id [.v 4] 1 <|
(.lt (some (.v 12,false)) .id [.v 1] 1 <|
(.lt (some (.v 12,false)) (.bin .geq) [.v 13,.v 14] 1 <|
(.lt none .pick [.v 12,.c (.bool true),.v 15] 1 <|
(.ite (.v 16)
(.leaf .ret [.c (.int .i64 (-1))] ())
(.lt none (.bin .mul) [.c (.int .i64 10),.v 3] 1 <|
(.lt none .sidx [.v 0,.v 4] 1 <|
(.lt none (.bin .sub) [.v 18,.c (.int .u8 48)] 1 <|
(.lt none (.conv .i64) [.v 19] 1 <|
(.lt none (.bin .add) [.v 17,.v 20] 1 <|
(.lt none (.bin .add) [.v 4,.c (.int .i64 1)] 1 <|
(.leaf .cont [.v 21,.v 22] ())))))))))))))))))))
(.leaf (.yield 1) [.v 3] ())))) <|
(.lt none (.bin .eql) [.v 0,.c (.str [])] 1 <|
(.lt (some (.v 4,false)) .id [.v 0] 1 <|
(.lt (some (.v 4,false)) .sidx [.v 5,.c (.int .i64 0)] 1 <|
(.lt (some (.v 4,false)) (.bin .eql) [.v 6,.c (.int .u8 48)] 1 <|
(.lt (some (.v 4,false)) .id [.v 7] 1 <|
(.lt (some (.v 8,true)) .id [.v 0] 1 <|
(.lt (some (.v 8,true)) .slen [.v 9] 1 <|
(.lt (some (.v 8,true)) (.bin .gtr) [.v 10,.c (.int .i64 1)] 1 <|
(.lt (some (.v 4,false)) .pick [.v 8,.v 11,.c (.bool false)] 1 <|
(.lt none .pick [.v 4,.c (.bool true),.v 12] 1 <|
(.ite (.v 13)
(.leaf .ret [.c (.int .i64 (-1))] ())
(.leaf .ret [.v 3] ()))))))))))))))
def Cbi:Tm Unit :=
(.call none 58 [.v 0,.c (.str [32])] 1 [] <|
(.lt none (.mk 1 3) [.c (.str [45]),.c (.str [109,111,118,101]),.c (.str [114,101,97,100])] 1 <|
(.lt none .inb [.v 1,.c (.int .i64 0)] 0 <|
(.lt none (.row 1 0 [true]) [.v 1,.c (.int .i64 0)] 1 <|
(.call none 73 [.v 2,.v 3] 1 [] <|
(.lt none (.bin .lss) [.v 4,.c (.int .i64 0)] 1 <|
(.ite (.v 5)
(.leaf .ret [.c (.int .i64 0),.c (.int .i64 0),.c (.int .i64 0),.c (.int .i64 0),.c (.int .i64 0),.c (.int .i64 1),.c (.bool false)] ())
(.lt none .len [.v 1] 1 <|
(.lt none (.mk 1 3) [.c (.int .i64 1),.c (.int .i64 5),.c (.int .i64 3)] 1 <|
(.lt none .inb [.v 7,.v 4] 0 <|
(.lt none (.row 1 0 [true]) [.v 7,.v 4] 1 <|
(.lt none (.bin .neq) [.v 6,.v 8] 1 <|
(.ite (.v 9)
(.leaf .ret [.c (.int .i64 0),.c (.int .i64 0),.c (.int .i64 0),.c (.int .i64 0),.c (.int .i64 0),.c (.int .i64 2),.c (.bool false)] ())
(.lt none .len [.v 1] 1 <|
(.lt none (.sub 1 true) [.v 1,.c (.int .i64 1),.v 10] 1 <|
(.call none 70 [.v 11,.c (.int .i64 4)] 2 [] <|
(.lt none (.dep 99) [.v 12] 0 <|
(.lt none .not [.v 13] 1 <|
(.ite (.v 14)
(.leaf .ret [.c (.int .i64 0),.c (.int .i64 0),.c (.int .i64 0),.c (.int .i64 0),.c (.int .i64 0),.c (.int .i64 3),.c (.bool false)] ())
(.bind 0
(.lt none (.bin .eql) [.v 4,.c (.int .i64 1)] 1 <|
(.ite (.v 15)
(.lt none .inb [.v 12,.c (.int .i64 0)] 0 <|
(.lt none (.row 1 0 [true]) [.v 12,.c (.int .i64 0)] 1 <|
(.lt none .inb [.v 12,.c (.int .i64 1)] 0 <|
(.lt none (.row 1 0 [true]) [.v 12,.c (.int .i64 1)] 1 <|
(.lt none .inb [.v 12,.c (.int .i64 2)] 0 <|
(.lt none (.row 1 0 [true]) [.v 12,.c (.int .i64 2)] 1 <|
(.lt none .inb [.v 12,.c (.int .i64 3)] 0 <|
(.lt none (.row 1 0 [true]) [.v 12,.c (.int .i64 3)] 1 <|
(.leaf (.yield 0) [.v 16,.v 17,.v 18,.v 19] ())))))))))
(.lt none (.bin .eql) [.v 4,.c (.int .i64 2)] 1 <|
(.ite (.v 16)
(.lt none .inb [.v 12,.c (.int .i64 0)] 0 <|
(.lt none (.row 1 0 [true]) [.v 12,.c (.int .i64 0)] 1 <|
(.lt none .inb [.v 12,.c (.int .i64 1)] 0 <|
(.lt none (.row 1 0 [true]) [.v 12,.c (.int .i64 1)] 1 <|
(.leaf (.yield 0) [.v 17,.v 18,.c (.int .i64 0),.c (.int .i64 0)] ())))))
(.leaf (.yield 0) [.c (.int .i64 0),.c (.int .i64 0),.c (.int .i64 0),.c (.int .i64 0)] ()))))) <|
(.call none 17 [.v 16] 1 [] <|
(.lt none .not [.v 19] 1 <|
(.lt (some (.v 20,false)) .id [.v 17] 1 <|
(.call (some (.v 20,false)) 17 [.v 21] 1 [] <|
(.lt (some (.v 20,false)) .not [.v 22] 1 <|
(.lt none .pick [.v 20,.c (.bool true),.v 23] 1 <|
(.ite (.v 24)
(.leaf .ret [.c (.int .i64 0),.c (.int .i64 0),.c (.int .i64 0),.c (.int .i64 0),.c (.int .i64 0),.c (.int .i64 4),.c (.bool false)] ())
(.lt none (.bin .eql) [.v 4,.c (.int .i64 1)] 1 <|
(.lt (some (.v 25,true)) .id [.v 16] 1 <|
(.lt (some (.v 25,true)) .id [.v 17] 1 <|
(.lt (some (.v 25,true)) (.bin .eql) [.v 26,.v 27] 1 <|
(.lt none .pick [.v 25,.v 28,.c (.bool false)] 1 <|
(.ite (.v 29)
(.leaf .ret [.c (.int .i64 0),.c (.int .i64 0),.c (.int .i64 0),.c (.int .i64 0),.c (.int .i64 0),.c (.int .i64 5),.c (.bool false)] ())
(.call none 16 [.v 4,.v 15,.v 16,.v 17,.v 18] 1 [] <|
(.lt none .not [.v 30] 1 <|
(.ite (.v 31)
(.leaf .ret [.c (.int .i64 0),.c (.int .i64 0),.c (.int .i64 0),.c (.int .i64 0),.c (.int .i64 0),.c (.int .i64 6),.c (.bool false)] ())
(.leaf .ret [.v 4,.v 15,.v 16,.v 17,.v 18,.c (.int .i64 0),.c (.bool true)] ())))))))))))))))))))))))))))))))))))))
def Cbh:Tm Unit :=
(.lt none .len [.v 0] 1 <|
(.bind 1
(.loop [.c (.int .i64 0)]
(.lt none (.bin .lss) [.v 3,.v 2] 1 <|
(.ite (.v 4)
(.lt none .inb [.v 0,.v 3] 0 <|
(.lt none (.row 1 0 [true]) [.v 0,.v 3] 1 <|
(.lt none (.bin .eql) [.v 1,.v 5] 1 <|
(.ite (.v 6)
(.leaf .ret [.v 3] ())
(.lt none (.bin .add) [.v 3,.c (.int .i64 1)] 1 <|
(.leaf .cont [.v 7] ()))))))
(.leaf (.yield 1) [] ())))) <|
(.leaf .ret [.c (.int .i64 (-1))] ())))
def Cbg:Tm Unit :=
(.call none 75 [.v 1,.c (.str [58])] 3 [] <|
(.call none 71 [.v 2,.c (.int .i64 3)] 1 [] <|
(.call none 58 [.v 3,.c (.str [44])] 1 [] <|
(.call none 70 [.v 6,.c (.int .i64 1)] 2 [] <|
(.lt none (.dep 99) [.v 7] 0 <|
(.lt none .not [.v 4] 1 <|
(.lt (some (.v 9,false)) .id [.v 8] 1 <|
(.lt (some (.v 9,false)) .not [.v 10] 1 <|
(.lt none .pick [.v 9,.c (.bool true),.v 11] 1 <|
(.lt (some (.v 12,false)) .id [.v 1] 1 <|
(.lt (some (.v 12,false)) .slen [.v 13] 1 <|
(.lt (some (.v 12,false)) (.bin .gtr) [.v 14,.c (.int .i64 40)] 1 <|
(.lt none .pick [.v 12,.c (.bool true),.v 15] 1 <|
(.lt (some (.v 16,false)) .id [.v 0] 1 <|
(.call (some (.v 16,false)) 18 [.v 17,.v 5,.v 7] 1 [] <|
(.lt (some (.v 16,false)) .not [.v 18] 1 <|
(.lt none .pick [.v 16,.c (.bool true),.v 19] 1 <|
(.ite (.v 20)
(.leaf .ret [.c (.int .i64 0),.c (.rows 1 []),.c (.bool false)] ())
(.leaf .ret [.v 5,.v 7,.c (.bool true)] ())))))))))))))))))))
def Xao:Tm Unit :=
(.call none 76 [.v 0,.v 1] 3 [] <|
(.leaf .ret [.v 2,.v 3,.v 4] ()))
def Xan:Tm Unit :=
(.call none 67 [.v 0,.v 1] 1 [] <|
(.lt none (.bin .geq) [.v 2,.c (.int .i64 0)] 1 <|
(.ite (.v 3)
(.lt none .ssub [.v 0,.c (.int .i64 0),.v 2] 1 <|
(.lt none .slen [.v 1] 1 <|
(.lt none (.bin .add) [.v 2,.v 5] 1 <|
(.lt none .slen [.v 0] 1 <|
(.lt none .ssub [.v 0,.v 6,.v 7] 1 <|
(.leaf .ret [.v 4,.v 8,.c (.bool true)] ()))))))
(.leaf .ret [.v 0,.c (.str []),.c (.bool false)] ()))))
def Cbf:Tm Unit :=
(.lt none .slen [.v 0] 1 <|
(.lt none (.bin .gtr) [.v 1,.c (.int .i64 200)] 1 <|
(.ite (.v 2)
(.leaf .ret [.c (.str []),.c (.bool false)] ())
(.call none 78 [.v 0] 1 [] <|
(.leaf .ret [.v 3,.c (.bool true)] ())))))
def Cbe:Tm Unit :=
(.lt none .slen [.v 0] 1 <|
(.lt none (.conv .u8) [.v 1] 1 <|
(.lt none (.mk 1 1) [.v 2] 1 <|
(.lt none .bstr [.v 3] 1 <|
(.lt none (.bin .add) [.v 4,.v 0] 1 <|
(.call none 79 [.v 5,.c (.int .i64 7),.c (.int .i64 33)] 1 [] <|
(.call none 80 [.v 6] 1 [] <|
(.lt none (.bin .add) [.v 5,.v 7] 1 <|
(.lt none (.bin .add) [.v 8,.c (.str [1])] 1 <|
(.leaf .ret [.v 9] ()))))))))))
def Cbd:Tm Unit :=
(.lt none .slen [.v 0] 1 <|
(.bind 1
(.loop [.v 1,.c (.int .i64 0)]
(.lt none (.bin .lss) [.v 5,.v 3] 1 <|
(.ite (.v 6)
(.lt none (.bin .mul) [.v 4,.v 2] 1 <|
(.lt none .sidx [.v 0,.v 5] 1 <|
(.lt none (.conv .i64) [.v 8] 1 <|
(.lt none (.bin .add) [.v 7,.v 9] 1 <|
(.lt none (.bin .rem) [.v 10,.c (.int .i64 65521)] 1 <|
(.lt none (.bin .add) [.v 5,.c (.int .i64 1)] 1 <|
(.leaf .cont [.v 11,.v 12] ())))))))
(.leaf (.yield 1) [.v 4] ())))) <|
(.leaf .ret [.v 4] ())))
def Cbc:Tm Unit :=
(.lt none (.bin .quo) [.v 0,.c (.int .i64 256)] 1 <|
(.lt none (.conv .u8) [.v 1] 1 <|
(.lt none (.bin .rem) [.v 0,.c (.int .i64 256)] 1 <|
(.lt none (.conv .u8) [.v 3] 1 <|
(.lt none (.mk 1 2) [.v 2,.v 4] 1 <|
(.lt none .bstr [.v 5] 1 <|
(.leaf .ret [.v 6] ())))))))
def Cbb:Tm Unit :=
(.lt none .slen [.v 0] 1 <|
(.lt none (.bin .gtr) [.v 1,.c (.int .i64 20000)] 1 <|
(.ite (.v 2)
(.leaf .ret [.c (.rows 1 []),.c (.int .i64 0),.c (.bool false)] ())
(.call none 82 [.v 0] 1 [] <|
(.lt none .len [.v 3] 1 <|
(.bind 1
(.loop [.c (.int .i64 0),.c (.int .i64 0)]
(.lt none (.bin .lss) [.v 6,.v 4] 1 <|
(.ite (.v 7)
(.lt none .inb [.v 3,.v 6] 0 <|
(.lt none (.row 1 0 [true]) [.v 3,.v 6] 1 <|
(.lt none .slen [.v 8] 1 <|
(.lt none (.bin .add) [.v 9,.c (.int .i64 4)] 1 <|
(.lt none (.bin .add) [.v 5,.v 10] 1 <|
(.lt none (.bin .add) [.v 6,.c (.int .i64 1)] 1 <|
(.leaf .cont [.v 11,.v 12] ())))))))
(.leaf (.yield 1) [.v 5] ())))) <|
(.leaf .ret [.v 3,.v 5,.c (.bool true)] ())))))))
def Cba:Tm Unit :=
(.lt none (.mk 1 0) [] 1 <|
(.bind 1
(.loop [.v 0,.v 1]
(.lt none (.bin .neq) [.v 2,.c (.str [])] 1 <|
(.ite (.v 4)
(.lt none .sidx [.v 2,.c (.int .i64 0)] 1 <|
(.lt none (.conv .i64) [.v 5] 1 <|
(.lt none (.bin .gtr) [.v 6,.c (.int .i64 200)] 1 <|
(.lt (some (.v 7,false)) .id [.v 2] 1 <|
(.lt (some (.v 7,false)) .slen [.v 8] 1 <|
(.lt (some (.v 7,false)) .id [.v 6] 1 <|
(.lt (some (.v 7,false)) (.bin .add) [.v 10,.c (.int .i64 4)] 1 <|
(.lt (some (.v 7,false)) (.bin .lss) [.v 9,.v 11] 1 <|
(.lt none .pick [.v 7,.c (.bool true),.v 12] 1 <|
(.lt (some (.v 13,false)) .id [.v 2] 1 <|
(.lt (some (.v 13,false)) .id [.v 6] 1 <|
(.lt (some (.v 13,false)) (.bin .add) [.v 15,.c (.int .i64 1)] 1 <|
(.lt (some (.v 13,false)) .ssub [.v 14,.c (.int .i64 1),.v 16] 1 <|
(.call (some (.v 13,false)) 78 [.v 17] 1 [] <|
(.lt (some (.v 13,false)) .id [.v 2] 1 <|
(.lt (some (.v 13,false)) .id [.v 6] 1 <|
(.lt (some (.v 13,false)) (.bin .add) [.v 20,.c (.int .i64 4)] 1 <|
(.lt (some (.v 13,false)) .ssub [.v 19,.c (.int .i64 0),.v 21] 1 <|
(.lt (some (.v 13,false)) (.bin .neq) [.v 18,.v 22] 1 <|
(.lt none .pick [.v 13,.c (.bool true),.v 23] 1 <|
(.ite (.v 24)
(.leaf (.yield 1) [.v 3] ())
(.lt none (.bin .add) [.v 6,.c (.int .i64 1)] 1 <|
(.lt none .ssub [.v 2,.c (.int .i64 1),.v 25] 1 <|
(.lt none (.mk 1 1) [.v 26] 1 <|
(.lt none (.app 1 16 true) [.v 3,.v 27] 1 <|
(.lt none (.bin .add) [.v 6,.c (.int .i64 4)] 1 <|
(.lt none .slen [.v 2] 1 <|
(.lt none .ssub [.v 2,.v 29,.v 30] 1 <|
(.leaf .cont [.v 31,.v 28] ())))))))))))))))))))))))))))))
(.leaf (.yield 1) [.v 3] ())))) <|
(.leaf .ret [.v 2] ())))
def Bb9:Tm Unit :=
(.lt none (.bin .eql) [.v 0,.v 10] 1 <|
(.lt (some (.v 20,true)) .id [.v 1] 1 <|
(.lt (some (.v 20,true)) .id [.v 11] 1 <|
(.lt (some (.v 20,true)) (.bin .eql) [.v 21,.v 22] 1 <|
(.lt none .pick [.v 20,.v 23,.c (.bool false)] 1 <|
(.lt (some (.v 24,true)) .id [.v 2] 1 <|
(.lt (some (.v 24,true)) .id [.v 12] 1 <|
(.lt (some (.v 24,true)) (.bin .eql) [.v 25,.v 26] 1 <|
(.lt none .pick [.v 24,.v 27,.c (.bool false)] 1 <|
(.lt (some (.v 28,true)) (.eqs [0,0,0,0,0]) [.v 3,.v 4,.v 5,.v 6,.v 7,.v 13,.v 14,.v 15,.v 16,.v 17] 1 <|
(.lt none .pick [.v 28,.v 29,.c (.bool false)] 1 <|
(.call (some (.v 30,true)) 84 [.v 8,.v 9,.v 18,.v 19] 1 [] <|
(.lt none .pick [.v 30,.v 31,.c (.bool false)] 1 <|
(.leaf .ret [.v 32] ()))))))))))))))
def Bb8:Tm Unit :=
(.lt none (.bin .eql) [.v 0,.v 2] 1 <|
(.call (some (.v 4,true)) 85 [.v 1,.v 3] 1 [] <|
(.lt none .pick [.v 4,.v 5,.c (.bool false)] 1 <|
(.leaf .ret [.v 6] ()))))
def Bb7:Tm Unit :=
(.lt none .len [.v 0] 1 <|
(.lt none .len [.v 1] 1 <|
(.lt none (.bin .neq) [.v 2,.v 3] 1 <|
(.ite (.v 4)
(.leaf .ret [.c (.bool false)] ())
(.lt none .len [.v 0] 1 <|
(.bind 1
(.loop [.c (.int .i64 0)]
(.lt none (.bin .lss) [.v 6,.v 5] 1 <|
(.ite (.v 7)
(.lt none .inb [.v 0,.v 6] 0 <|
(.lt none (.row 1 0 [true]) [.v 0,.v 6] 1 <|
(.lt none .inb [.v 1,.v 6] 0 <|
(.lt none (.row 1 0 [true]) [.v 1,.v 6] 1 <|
(.lt none (.bin .neq) [.v 8,.v 9] 1 <|
(.ite (.v 10)
(.leaf .ret [.c (.bool false)] ())
(.lt none (.bin .add) [.v 6,.c (.int .i64 1)] 1 <|
(.leaf .cont [.v 11] ()))))))))
(.leaf (.yield 1) [] ())))) <|
(.leaf .ret [.c (.bool true)] ())))))))
def Bb6:Tm Unit :=
(.call none 2 [.v 0] 13 [] <|
(.call none 40 [.v 1,.v 2,.v 3,.v 4,.v 5,.v 6,.v 7,.v 8,.v 9,.v 10,.v 11,.v 12,.v 13] 2 [] <|
(.bind 0
(.call none 9 [.c (.int .i64 3),.v 0,.c (.int .i64 0),.c (.int .u64 0)] 4 [] <|
(.ite (.v 16)
(.call none 87 [.v 14,.c (.str [48,49,32,124,58,44]),.v 17,.v 18,.v 19] 4 [] <|
(.leaf (.yield 0) [.v 20,.v 21,.v 22,.v 23] ()))
(.leaf (.yield 0) [.v 14,.v 17,.v 18,.v 19] ()))) <|
(.leaf .ret [.v 1,.v 16] ()))))
def Bb5:Tm Unit :=
(.call none 4 [.c (.int .i64 2),.v 2,.v 3,.v 4] 4 [] <|
(.lt none (.bin .add) [.c (.int .i64 1),.v 5] 1 <|
(.bind 1
(.loop [.v 0,.v 9,.v 6,.v 7,.v 8]
(.lt none (.bin .gtr) [.v 11,.c (.int .i64 0)] 1 <|
(.lt (some (.v 15,true)) .id [.v 10] 1 <|
(.lt (some (.v 15,true)) .slen [.v 16] 1 <|
(.lt (some (.v 15,true)) (.bin .gtr) [.v 17,.c (.int .i64 0)] 1 <|
(.lt none .pick [.v 15,.v 18,.c (.bool false)] 1 <|
(.ite (.v 19)
(.bind 0
(.lt none .slen [.v 10] 1 <|
(.call none 4 [.v 20,.v 12,.v 13,.v 14] 4 [] <|
(.lt none .slen [.v 1] 1 <|
(.call none 4 [.v 25,.v 22,.v 23,.v 24] 4 [] <|
(.lt none .sidx [.v 1,.v 26] 1 <|
(.lt none (.mk 1 1) [.v 30] 1 <|
(.lt none .bstr [.v 31] 1 <|
(.call none 4 [.c (.int .i64 3),.v 27,.v 28,.v 29] 4 [] <|
(.lt none (.bin .eql) [.v 33,.c (.int .i64 0)] 1 <|
(.ite (.v 37)
(.lt none .ssub [.v 10,.c (.int .i64 0),.v 21] 1 <|
(.lt none (.bin .add) [.v 38,.v 32] 1 <|
(.lt none .slen [.v 10] 1 <|
(.lt none .ssub [.v 10,.v 21,.v 40] 1 <|
(.lt none (.bin .add) [.v 39,.v 41] 1 <|
(.leaf (.yield 0) [.v 42,.v 34,.v 35,.v 36] ()))))))
(.lt none (.bin .eql) [.v 33,.c (.int .i64 1)] 1 <|
(.ite (.v 38)
(.lt none .ssub [.v 10,.c (.int .i64 0),.v 21] 1 <|
(.lt none (.bin .add) [.v 39,.v 32] 1 <|
(.lt none (.bin .add) [.v 21,.c (.int .i64 1)] 1 <|
(.lt none .slen [.v 10] 1 <|
(.lt none .ssub [.v 10,.v 41,.v 42] 1 <|
(.lt none (.bin .add) [.v 40,.v 43] 1 <|
(.leaf (.yield 0) [.v 44,.v 34,.v 35,.v 36] ())))))))
(.lt none .ssub [.v 10,.c (.int .i64 0),.v 21] 1 <|
(.lt none (.bin .add) [.v 21,.c (.int .i64 1)] 1 <|
(.lt none .slen [.v 10] 1 <|
(.lt none .ssub [.v 10,.v 40,.v 41] 1 <|
(.lt none (.bin .add) [.v 39,.v 42] 1 <|
(.leaf (.yield 0) [.v 43,.v 34,.v 35,.v 36] ())))))))))))))))))) <|
(.lt none (.bin .sub) [.v 11,.c (.int .i64 1)] 1 <|
(.leaf .cont [.v 20,.v 24,.v 21,.v 22,.v 23] ())))
(.leaf (.yield 1) [.v 10,.v 12,.v 13,.v 14] ())))))))) <|
(.leaf .ret [.v 10,.v 11,.v 12,.v 13] ()))))
def Gbg:Tm Unit :=
(.call none 89 [.v 1,.c (.int .u8 124)] 1 [] <|
(.call none 41 [.v 0] 1 [] <|
(.lt none .not [.v 3] 1 <|
(.lt (some (.v 4,false)) .len [.v 2] 1 <|
(.lt (some (.v 4,false)) (.bin .neq) [.v 5,.c (.int .i64 3)] 1 <|
(.lt none .pick [.v 4,.c (.bool true),.v 6] 1 <|
(.ite (.v 7)
(.leaf .ret [.c (.int .i64 0),.c (.int .i64 0),.c (.int .i64 0),.c (.int .i64 0),.c (.int .i64 0),.c (.int .i64 0),.c (.int .i64 0),.c (.int .i64 0),.c (.int .i64 0),.c (.int .i64 0),.c (.int .i64 0),.c (.rows 1 []),.c (.bool false)] ())
(.lt none .inb [.v 2,.c (.int .i64 0)] 0 <|
(.lt none (.row 1 0 [true]) [.v 2,.c (.int .i64 0)] 1 <|
(.call none 89 [.v 8,.c (.int .u8 32)] 1 [] <|
(.lt none .len [.v 9] 1 <|
(.bind 1
(.loop [.c (.rows 1 []),.c (.int .i64 0)]
(.lt none (.bin .lss) [.v 12,.v 10] 1 <|
(.ite (.v 13)
(.lt none .inb [.v 9,.v 12] 0 <|
(.lt none (.row 1 0 [true]) [.v 9,.v 12] 1 <|
(.call none 90 [.v 14] 1 [] <|
(.lt none (.mk 1 1) [.v 15] 1 <|
(.lt none (.app 1 8 true) [.v 11,.v 16] 1 <|
(.lt none (.bin .add) [.v 12,.c (.int .i64 1)] 1 <|
(.leaf .cont [.v 17,.v 18] ())))))))
(.leaf (.yield 1) [.v 11] ())))) <|
(.lt none .inb [.v 2,.c (.int .i64 1)] 0 <|
(.lt none (.row 1 0 [true]) [.v 2,.c (.int .i64 1)] 1 <|
(.call none 91 [.v 12] 7 [] <|
(.lt none .inb [.v 2,.c (.int .i64 2)] 0 <|
(.lt none (.row 1 0 [true]) [.v 2,.c (.int .i64 2)] 1 <|
(.call none 92 [.v 0,.v 20] 3 [] <|
(.lt none .len [.v 11] 1 <|
(.lt none (.bin .neq) [.v 24,.c (.int .i64 5)] 1 <|
(.lt (some (.v 25,false)) .id [.v 19] 1 <|
(.lt (some (.v 25,false)) .not [.v 26] 1 <|
(.lt none .pick [.v 25,.c (.bool true),.v 27] 1 <|
(.lt (some (.v 28,false)) .id [.v 23] 1 <|
(.lt (some (.v 28,false)) .not [.v 29] 1 <|
(.lt none .pick [.v 28,.c (.bool true),.v 30] 1 <|
(.ite (.v 31)
(.leaf .ret [.c (.int .i64 0),.c (.int .i64 0),.c (.int .i64 0),.c (.int .i64 0),.c (.int .i64 0),.c (.int .i64 0),.c (.int .i64 0),.c (.int .i64 0),.c (.int .i64 0),.c (.int .i64 0),.c (.int .i64 0),.c (.rows 1 []),.c (.bool false)] ())
(.lt none .inb [.v 11,.c (.int .i64 2)] 0 <|
(.lt none (.row 1 0 [true]) [.v 11,.c (.int .i64 2)] 1 <|
(.lt none .inb [.v 11,.c (.int .i64 3)] 0 <|
(.lt none (.row 1 0 [true]) [.v 11,.c (.int .i64 3)] 1 <|
(.lt none .inb [.v 11,.c (.int .i64 4)] 0 <|
(.lt none (.row 1 0 [true]) [.v 11,.c (.int .i64 4)] 1 <|
(.lt none .inb [.v 11,.c (.int .i64 0)] 0 <|
(.lt none (.row 1 0 [true]) [.v 11,.c (.int .i64 0)] 1 <|
(.lt none .inb [.v 11,.c (.int .i64 1)] 0 <|
(.lt none (.row 1 0 [true]) [.v 11,.c (.int .i64 1)] 1 <|
(.call none 40 [.v 0,.v 35,.v 36,.v 32,.v 33,.v 34,.v 13,.v 14,.v 15,.v 16,.v 17,.v 21,.v 22] 2 [] <|
(.lt none .not [.v 38] 1 <|
(.lt (some (.v 39,false)) .id [.v 37] 1 <|
(.lt (some (.v 39,false)) .id [.v 1] 1 <|
(.lt (some (.v 39,false)) (.bin .neq) [.v 40,.v 41] 1 <|
(.lt none .pick [.v 39,.c (.bool true),.v 42] 1 <|
(.ite (.v 43)
(.leaf .ret [.c (.int .i64 0),.c (.int .i64 0),.c (.int .i64 0),.c (.int .i64 0),.c (.int .i64 0),.c (.int .i64 0),.c (.int .i64 0),.c (.int .i64 0),.c (.int .i64 0),.c (.int .i64 0),.c (.int .i64 0),.c (.rows 1 []),.c (.bool false)] ())
(.lt none .inb [.v 11,.c (.int .i64 0)] 0 <|
(.lt none (.row 1 0 [true]) [.v 11,.c (.int .i64 0)] 1 <|
(.lt none .inb [.v 11,.c (.int .i64 1)] 0 <|
(.lt none (.row 1 0 [true]) [.v 11,.c (.int .i64 1)] 1 <|
(.leaf .ret [.v 44,.v 45,.v 32,.v 33,.v 34,.v 13,.v 14,.v 15,.v 16,.v 17,.v 21,.v 22,.c (.bool true)] ())))))))))))))))))))))))))))))))))))))))))))))))))
def Gbf:Tm Unit :=
(.bind 1
(.loop [.c (.rows 1 []),.c (.int .i64 0),.c (.int .i64 0)]
(.lt none .slen [.v 0] 1 <|
(.lt none (.bin .lss) [.v 4,.v 5] 1 <|
(.ite (.v 6)
(.bind 0
(.lt none .sidx [.v 0,.v 4] 1 <|
(.lt none (.bin .eql) [.v 7,.v 1] 1 <|
(.ite (.v 8)
(.lt none .ssub [.v 0,.v 3,.v 4] 1 <|
(.lt none (.mk 1 1) [.v 9] 1 <|
(.lt none (.app 1 16 true) [.v 2,.v 10] 1 <|
(.lt none (.bin .add) [.v 4,.c (.int .i64 1)] 1 <|
(.leaf (.yield 0) [.v 11,.v 12] ())))))
(.leaf (.yield 0) [.v 2,.v 3] ())))) <|
(.lt none (.bin .add) [.v 4,.c (.int .i64 1)] 1 <|
(.leaf .cont [.v 7,.v 8,.v 9] ())))
(.leaf (.yield 1) [.v 2,.v 3] ()))))) <|
(.lt none .slen [.v 0] 1 <|
(.lt none .ssub [.v 0,.v 3,.v 4] 1 <|
(.lt none (.mk 1 1) [.v 5] 1 <|
(.lt none (.app 1 16 true) [.v 2,.v 6] 1 <|
(.leaf .ret [.v 7] ()))))))
def Gbe:Tm Unit :=
(.lt none .slen [.v 0] 1 <|
(.call none 43 [.v 1,.c (.int .i64 1),.c (.int .i64 6)] 1 [] <|
(.lt none .not [.v 2] 1 <|
(.lt (some (.v 3,false)) .id [.v 0] 1 <|
(.lt (some (.v 3,false)) .sidx [.v 4,.c (.int .i64 0)] 1 <|
(.lt (some (.v 3,false)) (.bin .eql) [.v 5,.c (.int .u8 48)] 1 <|
(.lt (some (.v 3,false)) .id [.v 6] 1 <|
(.lt (some (.v 7,true)) .id [.v 0] 1 <|
(.lt (some (.v 7,true)) .slen [.v 8] 1 <|
(.lt (some (.v 7,true)) (.bin .gtr) [.v 9,.c (.int .i64 1)] 1 <|
(.lt (some (.v 3,false)) .pick [.v 7,.v 10,.c (.bool false)] 1 <|
(.lt none .pick [.v 3,.c (.bool true),.v 11] 1 <|
(.ite (.v 12)
(.leaf .ret [.c (.int .i64 (-1))] ())
(.bind 1
(.loop [.c (.int .i64 0),.c (.int .i64 0)]
(.lt none .slen [.v 0] 1 <|
(.lt none (.bin .lss) [.v 14,.v 15] 1 <|
(.ite (.v 16)
(.lt none .sidx [.v 0,.v 14] 1 <|
(.lt none (.bin .lss) [.v 17,.c (.int .u8 48)] 1 <|
(.lt (some (.v 18,false)) .id [.v 0] 1 <|
(.lt (some (.v 18,false)) .id [.v 14] 1 <|
(.lt (some (.v 18,false)) .sidx [.v 19,.v 20] 1 <|
(.lt (some (.v 18,false)) (.bin .gtr) [.v 21,.c (.int .u8 57)] 1 <|
(.lt none .pick [.v 18,.c (.bool true),.v 22] 1 <|
(.ite (.v 23)
(.leaf .ret [.c (.int .i64 (-1))] ())
(.lt none (.bin .mul) [.c (.int .i64 10),.v 13] 1 <|
(.lt none .sidx [.v 0,.v 14] 1 <|
(.lt none (.bin .sub) [.v 25,.c (.int .u8 48)] 1 <|
(.lt none (.conv .i64) [.v 26] 1 <|
(.lt none (.bin .add) [.v 24,.v 27] 1 <|
(.lt none (.bin .add) [.v 14,.c (.int .i64 1)] 1 <|
(.leaf .cont [.v 28,.v 29] ())))))))))))))))
(.leaf (.yield 1) [.v 13] ()))))) <|
(.leaf .ret [.v 13] ())))))))))))))))
def Gbd:Tm Unit :=
(.call none 89 [.v 0,.c (.int .u8 32)] 1 [] <|
(.bind 0
(.lt none .inb [.v 1,.c (.int .i64 0)] 0 <|
(.lt none (.row 1 0 [true]) [.v 1,.c (.int .i64 0)] 1 <|
(.lt none (.bin .eql) [.v 2,.c (.str [109,111,118,101])] 1 <|
(.ite (.v 3)
(.leaf (.yield 0) [.c (.int .i64 5),.c (.int .i64 1)] ())
(.lt none (.bin .eql) [.v 2,.c (.str [114,101,97,100])] 1 <|
(.ite (.v 4)
(.leaf (.yield 0) [.c (.int .i64 3),.c (.int .i64 2)] ())
(.lt none (.bin .eql) [.v 2,.c (.str [45])] 1 <|
(.ite (.v 5)
(.leaf (.yield 0) [.c (.int .i64 1),.c (.int .i64 0)] ())
(.leaf .ret [.c (.int .i64 0),.c (.int .i64 0),.c (.int .i64 0),.c (.int .i64 0),.c (.int .i64 0),.c (.int .i64 1),.c (.bool false)] ()))))))))) <|
(.lt none .len [.v 1] 1 <|
(.lt none (.bin .neq) [.v 4,.v 2] 1 <|
(.ite (.v 5)
(.leaf .ret [.c (.int .i64 0),.c (.int .i64 0),.c (.int .i64 0),.c (.int .i64 0),.c (.int .i64 0),.c (.int .i64 2),.c (.bool false)] ())
(.lt none (.make 8 [(.int .i64 0)]) [.c (.int .i64 4)] 1 <|
(.lt none .len [.v 1] 1 <|
(.lt none (.sub 1 true) [.v 1,.c (.int .i64 1),.v 7] 1 <|
(.lt none .len [.v 8] 1 <|
(.bind 2
(.loop [.v 6,.c (.int .i64 0)]
(.lt none (.bin .lss) [.v 11,.v 9] 1 <|
(.ite (.v 12)
(.lt none .inb [.v 8,.v 11] 0 <|
(.lt none (.row 1 0 [true]) [.v 8,.v 11] 1 <|
(.call none 90 [.v 13] 1 [] <|
(.lt none .inb [.v 10,.v 11] 0 <|
(.lt none (.set 1 0 1) [.v 10,.v 11,.v 14] 1 <|
(.lt none .slen [.v 13] 1 <|
(.lt none (.bin .gtr) [.v 16,.c (.int .i64 4)] 1 <|
(.lt (some (.v 17,false)) .id [.v 11] 1 <|
(.lt (some (.v 17,false)) .inb [.v 15,.v 18] 0 <|
(.lt (some (.v 17,false)) (.row 1 0 [true]) [.v 15,.v 18] 1 <|
(.lt (some (.v 17,false)) (.bin .lss) [.v 19,.c (.int .i64 0)] 1 <|
(.lt none .pick [.v 17,.c (.bool true),.v 20] 1 <|
(.ite (.v 21)
(.leaf .ret [.c (.int .i64 0),.c (.int .i64 0),.c (.int .i64 0),.c (.int .i64 0),.c (.int .i64 0),.c (.int .i64 3),.c (.bool false)] ())
(.lt none (.bin .add) [.v 11,.c (.int .i64 1)] 1 <|
(.leaf .cont [.v 15,.v 22] ())))))))))))))))
(.leaf (.yield 2) [.v 10] ())))) <|
(.lt none .inb [.v 10,.c (.int .i64 0)] 0 <|
(.lt none (.row 1 0 [true]) [.v 10,.c (.int .i64 0)] 1 <|
(.lt none .inb [.v 10,.c (.int .i64 1)] 0 <|
(.lt none (.row 1 0 [true]) [.v 10,.c (.int .i64 1)] 1 <|
(.lt none .inb [.v 10,.c (.int .i64 2)] 0 <|
(.lt none (.row 1 0 [true]) [.v 10,.c (.int .i64 2)] 1 <|
(.lt none .inb [.v 10,.c (.int .i64 3)] 0 <|
(.lt none (.row 1 0 [true]) [.v 10,.c (.int .i64 3)] 1 <|
(.lt none (.bin .eql) [.v 3,.c (.int .i64 0)] 1 <|
(.ite (.v 15)
(.leaf .ret [.v 3,.v 11,.v 12,.v 13,.v 14,.c (.int .i64 0),.c (.bool true)] ())
(.call none 48 [.v 3,.v 11,.v 12,.v 13,.v 14] 1 [] <|
(.lt none (.bin .gtr) [.v 16,.c (.int .i64 0)] 1 <|
(.ite (.v 17)
(.leaf .ret [.c (.int .i64 0),.c (.int .i64 0),.c (.int .i64 0),.c (.int .i64 0),.c (.int .i64 0),.v 16,.c (.bool false)] ())
(.leaf .ret [.v 3,.v 11,.v 12,.v 13,.v 14,.c (.int .i64 0),.c (.bool true)] ()))))))))))))))))))))))))
def Bb4:Tm Unit :=
(.call none 89 [.v 1,.c (.int .u8 58)] 1 [] <|
(.lt none .slen [.v 1] 1 <|
(.lt none (.bin .gtr) [.v 3,.c (.int .i64 40)] 1 <|
(.lt (some (.v 4,false)) .len [.v 2] 1 <|
(.lt (some (.v 4,false)) (.bin .neq) [.v 5,.c (.int .i64 2)] 1 <|
(.lt none .pick [.v 4,.c (.bool true),.v 6] 1 <|
(.ite (.v 7)
(.leaf .ret [.c (.int .i64 0),.c (.rows 1 []),.c (.bool false)] ())
(.lt none .inb [.v 2,.c (.int .i64 0)] 0 <|
(.lt none (.row 1 0 [true]) [.v 2,.c (.int .i64 0)] 1 <|
(.call none 90 [.v 8] 1 [] <|
(.lt none .inb [.v 2,.c (.int .i64 1)] 0 <|
(.lt none (.row 1 0 [true]) [.v 2,.c (.int .i64 1)] 1 <|
(.call none 89 [.v 10,.c (.int .u8 44)] 1 [] <|
(.lt none .len [.v 11] 1 <|
(.bind 1
(.loop [.c (.int .i64 0),.c (.rows 1 [])]
(.lt none (.bin .lss) [.v 13,.v 12] 1 <|
(.ite (.v 15)
(.lt none .inb [.v 11,.v 13] 0 <|
(.lt none (.row 1 0 [true]) [.v 11,.v 13] 1 <|
(.call none 90 [.v 16] 1 [] <|
(.lt none (.mk 1 1) [.v 17] 1 <|
(.lt none (.app 1 8 true) [.v 14,.v 18] 1 <|
(.lt none (.bin .add) [.v 13,.c (.int .i64 1)] 1 <|
(.leaf .cont [.v 20,.v 19] ())))))))
(.leaf (.yield 1) [.v 14] ())))) <|
(.call none 93 [.v 0,.v 9,.v 13] 1 [] <|
(.lt none .not [.v 14] 1 <|
(.ite (.v 15)
(.leaf .ret [.c (.int .i64 0),.c (.rows 1 []),.c (.bool false)] ())
(.leaf .ret [.v 9,.v 13,.c (.bool true)] ())))))))))))))))))))
def Ib2:Tm Unit :=
(.call none 41 [.v 0] 1 [] <|
(.lt (some (.v 3,true)) .id [.v 0] 1 <|
(.call (some (.v 3,true)) 50 [.v 4,.v 1,.v 2] 1 [] <|
(.lt none .pick [.v 3,.v 5,.c (.bool false)] 1 <|
(.leaf .ret [.v 6] ())))))
def Bb3:Tm Unit :=
(.call none 9 [.c (.int .i64 20),.v 0,.c (.int .i64 0),.c (.int .u64 0)] 4 [] <|
(.ite (.v 1)
(.call none 4 [.c (.int .i64 2),.v 2,.v 3,.v 4] 4 [] <|
(.lt none (.bin .add) [.c (.int .i64 200),.v 5] 1 <|
(.lt none (.make 1 [(.int .u8 0)]) [.v 9] 1 <|
(.lt none .bstr [.v 10] 1 <|
(.leaf .ret [.v 11] ())))))
(.call none 86 [.v 0] 2 [] <|
(.leaf .ret [.v 6] ()))))
def Bb2:Tm Unit :=
(.lt none .slen [.v 0] 1 <|
(.lt none (.bin .gtr) [.v 1,.c (.int .i64 200)] 1 <|
(.ite (.v 2)
(.leaf .ret [.c (.str []),.c (.bool false)] ())
(.call none 96 [.v 0] 1 [] <|
(.leaf .ret [.v 3,.c (.bool true)] ())))))
def Bb1:Tm Unit :=
(.lt none .slen [.v 0] 1 <|
(.lt none (.conv .u8) [.v 1] 1 <|
(.lt none (.mk 1 1) [.v 2] 1 <|
(.lt none .bstr [.v 3] 1 <|
(.lt none (.bin .add) [.v 4,.v 0] 1 <|
(.bind 1
(.loop [.c (.int .i64 7),.c (.int .i64 0)]
(.lt none .slen [.v 5] 1 <|
(.lt none (.bin .lss) [.v 7,.v 8] 1 <|
(.ite (.v 9)
(.lt none (.bin .mul) [.c (.int .i64 33),.v 6] 1 <|
(.lt none .sidx [.v 5,.v 7] 1 <|
(.lt none (.conv .i64) [.v 11] 1 <|
(.lt none (.bin .add) [.v 10,.v 12] 1 <|
(.lt none (.bin .rem) [.v 13,.c (.int .i64 65521)] 1 <|
(.lt none (.bin .add) [.v 7,.c (.int .i64 1)] 1 <|
(.leaf .cont [.v 14,.v 15] ())))))))
(.leaf (.yield 1) [.v 6] ()))))) <|
(.lt none (.bin .quo) [.v 6,.c (.int .i64 256)] 1 <|
(.lt none (.conv .u8) [.v 7] 1 <|
(.lt none (.bin .rem) [.v 6,.c (.int .i64 256)] 1 <|
(.lt none (.conv .u8) [.v 9] 1 <|
(.lt none (.mk 1 3) [.v 8,.v 10,.c (.int .u8 1)] 1 <|
(.lt none .bstr [.v 11] 1 <|
(.lt none (.bin .add) [.v 5,.v 12] 1 <|
(.leaf .ret [.v 13] ()))))))))))))))
def Ib1:Tm Unit :=
(.call none 98 [.v 0,.c (.int .i64 0),.c (.int .u64 0)] 5 [] <|
(.leaf .ret [.v 2] ()))
def Bb0:Tm Unit :=
(.call none 99 [.v 0,.v 1,.v 2] 5 [] <|
(.bind 0
(.call none 9 [.c (.int .i64 2),.v 5,.v 6,.v 7] 4 [] <|
(.ite (.v 8)
(.call none 101 [.v 9,.v 10,.v 11] 5 [] <|
(.leaf (.yield 0) [.v 14,.v 15,.v 16,.v 12,.v 13] ()))
(.leaf (.yield 0) [.v 9,.v 10,.v 11,.v 3,.v 4] ()))) <|
(.call none 113 [.v 11,.v 12] 2 [] <|
(.bind 0
(.call none 9 [.c (.int .i64 4),.v 8,.v 9,.v 10] 4 [] <|
(.lt (some (.v 15,true)) .id [.v 11] 1 <|
(.call (some (.v 15,true)) 41 [.v 19] 1 [] <|
(.lt none .pick [.v 15,.v 20,.c (.bool false)] 1 <|
(.ite (.v 21)
(.call none 4 [.c (.int .i64 3),.v 16,.v 17,.v 18] 4 [] <|
(.call none 4 [.c (.int .i64 3),.v 23,.v 24,.v 25] 4 [] <|
(.lt none (.bin .add) [.c (.int .i64 1),.v 26] 1 <|
(.call none 7 [.v 11,.v 27,.v 28,.v 29] 13 [] <|
(.call none 115 [.v 11,.v 13,.v 22,.v 30,.v 31,.v 32,.v 33,.v 34,.v 35,.v 36,.v 37,.v 38,.v 39,.v 40] 2 [] <|
(.ite (.v 45)
(.leaf (.yield 0) [.v 44,.v 41,.v 42,.v 43] ())
(.leaf (.yield 0) [.v 13,.v 41,.v 42,.v 43] ())))))))
(.leaf (.yield 0) [.v 13,.v 16,.v 17,.v 18] ())))))) <|
(.bind 0
(.call none 4 [.c (.int .i64 6),.v 16,.v 17,.v 18] 4 [] <|
(.lt none (.bin .eql) [.v 19,.c (.int .i64 0)] 1 <|
(.ite (.v 23)
(.lt none .slen [.v 15] 1 <|
(.lt none (.bin .add) [.v 24,.c (.int .i64 1)] 1 <|
(.call none 4 [.v 25,.v 20,.v 21,.v 22] 4 [] <|
(.lt none .ssub [.v 15,.c (.int .i64 0),.v 26] 1 <|
(.leaf (.yield 0) [.v 30,.v 27,.v 28,.v 29] ())))))
(.lt none (.bin .eql) [.v 19,.c (.int .i64 1)] 1 <|
(.ite (.v 24)
(.call none 87 [.v 15,.c (.str [48,124,1]),.v 20,.v 21,.v 22] 4 [] <|
(.leaf (.yield 0) [.v 25,.v 26,.v 27,.v 28] ()))
(.leaf (.yield 0) [.v 15,.v 20,.v 21,.v 22] ())))))) <|
(.leaf .ret [.v 11,.v 19,.v 20,.v 21,.v 22] ()))))))
def Bbz:Tm Unit :=
(.lt none (.mk 1 4) [.c (.int .i64 3),.c (.int .i64 3),.c (.int .i64 3),.c (.int .i64 5)] 1 <|
(.call none 3 [.v 3,.v 0,.v 1,.v 2] 4 [] <|
(.call none 100 [.v 4] 2 [] <|
(.lt none .len [.v 9] 1 <|
(.bind 1
(.loop [.c (.int .i64 0),.v 5,.v 6,.v 7,.v 9]
(.lt none (.bin .lss) [.v 11,.v 10] 1 <|
(.ite (.v 16)
(.call none 4 [.c (.int .i64 4),.v 12,.v 13,.v 14] 4 [] <|
(.bind 3
(.loop [.v 17,.v 18,.v 19,.v 20,.v 15]
(.lt none (.bin .gtr) [.v 21,.c (.int .i64 0)] 1 <|
(.ite (.v 26)
(.lt none .inb [.v 25,.v 11] 0 <|
(.lt none (.row 1 0 [false]) [.v 25,.v 11] 1 <|
(.call none 7 [.v 4,.v 22,.v 23,.v 24] 13 [] <|
(.lt none (.mk 10 1) [.v 28,.v 29,.v 30,.v 31,.v 32,.v 33,.v 34,.v 35,.v 36,.v 37] 1 <|
(.lt none (.set 1 0 1) [.v 25,.v 11,.c .hole] 1 <|
(.lt none (.app 10 96 false) [.v 27,.v 41] 1 <|
(.lt none .inb [.v 42,.v 11] 0 <|
(.lt none (.set 1 0 1) [.v 42,.v 11,.v 43] 1 <|
(.lt none (.bin .sub) [.v 21,.c (.int .i64 1)] 1 <|
(.leaf .cont [.v 45,.v 38,.v 39,.v 40,.v 44] ()))))))))))
(.leaf (.yield 3) [.v 22,.v 23,.v 24,.v 25] ())))) <|
(.lt none (.bin .add) [.v 11,.c (.int .i64 1)] 1 <|
(.leaf .cont [.v 25,.v 21,.v 22,.v 23,.v 24] ()))))
(.leaf (.yield 1) [.v 12,.v 13,.v 14,.v 15] ())))) <|
(.bind 0
(.call none 4 [.c (.int .i64 40),.v 11,.v 12,.v 13] 4 [] <|
(.lt none (.bin .eql) [.v 15,.c (.int .i64 0)] 1 <|
(.ite (.v 19)
(.call none 4 [.c (.int .i64 6),.v 16,.v 17,.v 18] 4 [] <|
(.leaf (.yield 0) [.v 21,.v 22,.v 23,.v 20,.v 14] ()))
(.lt none (.bin .eql) [.v 15,.c (.int .i64 1)] 1 <|
(.ite (.v 20)
(.lt none .inb [.v 14,.c (.int .i64 0)] 0 <|
(.lt none (.row 1 0 [false]) [.v 14,.c (.int .i64 0)] 1 <|
(.lt none (.mk 10 1) [.c (.int .i64 0),.c (.int .i64 1),.c (.int .i64 0),.c (.int .i64 0),.c (.int .i64 0),.c (.int .i64 0),.c (.int .i64 0),.c (.int .i64 0),.c (.int .i64 0),.c (.rows 1 [])] 1 <|
(.lt none (.set 1 0 1) [.v 14,.c (.int .i64 0),.c .hole] 1 <|
(.lt none (.app 10 96 false) [.v 21,.v 22] 1 <|
(.lt none .inb [.v 23,.c (.int .i64 0)] 0 <|
(.lt none (.set 1 0 1) [.v 23,.c (.int .i64 0),.v 24] 1 <|
(.leaf (.yield 0) [.v 16,.v 17,.v 18,.v 8,.v 25] ()))))))))
(.leaf (.yield 0) [.v 16,.v 17,.v 18,.v 8,.v 14] ())))))) <|
(.leaf .ret [.v 18,.v 19,.v 15,.v 16,.v 17] ())))))))
def Hao:Tm Unit :=
(.lt none (.make 24 [(.rows 10 [])]) [.v 0] 1 <|
(.leaf .ret [.v 0,.v 1] ()))
def Mas:Tm Unit :=
(.call none 100 [.c (.int .i64 3)] 2 [] <|
(.call none 4 [.c (.int .i64 9),.v 0,.v 1,.v 2] 4 [] <|
(.bind 1
(.loop [.v 5,.v 6,.v 7,.v 8,.v 3,.v 4]
(.lt none (.bin .gtr) [.v 9,.c (.int .i64 0)] 1 <|
(.ite (.v 15)
(.bind 2
(.call none 4 [.c (.int .i64 3),.v 10,.v 11,.v 12] 4 [] <|
(.lt none .inb [.v 14,.v 16] 0 <|
(.lt none (.row 1 0 [false]) [.v 14,.v 16] 1 <|
(.lt none .len [.v 20] 1 <|
(.lt none (.bin .add) [.v 21,.c (.int .i64 1)] 1 <|
(.lt none (.bin .gtr) [.v 22,.c (.int .i64 4)] 1 <|
(.ite (.v 23)
(.leaf (.yield 2) [.v 17,.v 18,.v 19,.v 13,.v 14] ())
(.call none 8 [.v 17,.v 18,.v 19] 8 [] <|
(.call none 102 [.v 13,.v 14,.v 24,.v 25,.v 26,.v 27,.v 28,.v 16,.v 22] 2 [] <|
(.lt none (.dep 99) [.v 33] 0 <|
(.bind 0
(.call none 9 [.c (.int .i64 3),.v 29,.v 30,.v 31] 4 [] <|
(.ite (.v 34)
(.call none 4 [.c (.int .i64 3),.v 35,.v 36,.v 37] 4 [] <|
(.call none 4 [.c (.int .i64 4),.v 39,.v 40,.v 41] 4 [] <|
(.lt none .inb [.v 33,.v 38] 0 <|
(.lt none (.set 1 0 1) [.v 33,.v 38,.v 42] 1 <|
(.leaf (.yield 0) [.v 43,.v 44,.v 45,.v 46] ())))))
(.leaf (.yield 0) [.v 35,.v 36,.v 37,.v 33] ()))) <|
(.bind 0
(.call none 9 [.c (.int .i64 5),.v 34,.v 35,.v 36] 4 [] <|
(.ite (.v 38)
(.call none 4 [.c (.int .i64 2),.v 39,.v 40,.v 41] 4 [] <|
(.lt none (.bin .add) [.c (.int .i64 1),.v 42] 1 <|
(.leaf (.yield 0) [.v 46,.v 43,.v 44,.v 45] ())))
(.leaf (.yield 0) [.c (.int .i64 3),.v 39,.v 40,.v 41] ()))) <|
(.call none 108 [.v 13,.v 14,.v 16,.v 22,.c (.int .i64 0),.c (.int .i64 0),.v 38,.v 24,.v 25,.v 26,.v 27,.v 28,.v 32,.v 37] 2 [] <|
(.lt none (.dep 99) [.v 43] 0 <|
(.leaf (.yield 2) [.v 39,.v 40,.v 41,.v 42,.v 43] ()))))))))))))))) <|
(.lt none (.bin .sub) [.v 9,.c (.int .i64 1)] 1 <|
(.leaf .cont [.v 21,.v 16,.v 17,.v 18,.v 19,.v 20] ())))
(.leaf (.yield 1) [.v 10,.v 11,.v 12,.v 13,.v 14] ())))) <|
(.call none 9 [.c (.int .i64 20),.v 9,.v 10,.v 11] 4 [] <|
(.ite (.v 14)
(.call none 99 [.v 15,.v 16,.v 17] 5 [] <|
(.leaf .ret [.v 18,.v 19,.v 20,.v 21,.v 22] ()))
(.leaf .ret [.v 12,.v 13,.v 15,.v 16,.v 17] ()))))))
def Mar:Tm Unit :=
(.call none 10 [.v 0] 2 [] <|
(.lt none .len [.v 1] 1 <|
(.bind 1
(.loop [.c (.int .i64 0),.v 9,.v 10]
(.lt none (.bin .lss) [.v 12,.v 11] 1 <|
(.ite (.v 15)
(.lt none .inb [.v 1,.v 12] 0 <|
(.lt none (.row 1 0 [false]) [.v 1,.v 12] 1 <|
(.lt none .len [.v 16] 1 <|
(.bind 3
(.loop [.c (.int .i64 0),.v 13,.v 14]
(.lt none (.bin .lss) [.v 18,.v 17] 1 <|
(.ite (.v 21)
(.bind 4
(.lt none .inb [.v 16,.v 18] 0 <|
(.lt none (.row 10 0 [true,true,true,true,true,true,true,true,true,false]) [.v 16,.v 18] 10 <|
(.lt none (.bin .eql) [.v 24,.c (.int .i64 0)] 1 <|
(.call (some (.v 32,false)) 103 [.v 2,.v 3,.v 4,.v 5,.v 6,.v 25,.v 26,.v 27,.v 28,.v 29] 1 [] <|
(.lt (some (.v 32,false)) .not [.v 33] 1 <|
(.lt none .pick [.v 32,.c (.bool true),.v 34] 1 <|
(.lt (some (.v 35,false)) .id [.v 12] 1 <|
(.lt (some (.v 35,false)) .id [.v 7] 1 <|
(.lt (some (.v 35,false)) (.bin .eql) [.v 36,.v 37] 1 <|
(.lt (some (.v 35,false)) .id [.v 38] 1 <|
(.lt (some (.v 39,true)) .id [.v 18] 1 <|
(.lt (some (.v 39,true)) (.bin .add) [.v 40,.c (.int .i64 1)] 1 <|
(.lt (some (.v 39,true)) .id [.v 8] 1 <|
(.lt (some (.v 39,true)) (.bin .eql) [.v 41,.v 42] 1 <|
(.lt (some (.v 35,false)) .pick [.v 39,.v 43,.c (.bool false)] 1 <|
(.lt none .pick [.v 35,.c (.bool true),.v 44] 1 <|
(.ite (.v 45)
(.leaf (.yield 4) [.c .undef,.c .undef,.c .undef,.c .undef,.c .undef,.c .undef,.c .undef,.c .undef,.c .undef,.c .undef,.c .undef,.v 19,.v 20] ())
(.lt none (.bin .add) [.v 18,.c (.int .i64 1)] 1 <|
(.lt none .inb [.v 20,.v 12] 0 <|
(.lt none (.set 1 0 1) [.v 20,.v 12,.v 46] 1 <|
(.call none 107 [.v 19,.v 30] 1 [] <|
(.leaf (.yield 4) [.c .undef,.c .undef,.c .undef,.c .undef,.c .undef,.c .undef,.c .undef,.c .undef,.c .undef,.c .undef,.c .undef,.v 48,.v 47] ())))))))))))))))))))))) <|
(.lt none (.bin .add) [.v 18,.c (.int .i64 1)] 1 <|
(.leaf .cont [.v 35,.v 33,.v 34] ())))
(.leaf (.yield 3) [.v 19,.v 20] ())))) <|
(.lt none (.bin .add) [.v 12,.c (.int .i64 1)] 1 <|
(.leaf .cont [.v 20,.v 18,.v 19] ()))))))
(.leaf (.yield 1) [.v 13,.v 14] ())))) <|
(.lt none (.bin .add) [.v 12,.c (.int .i64 1)] 1 <|
(.leaf .ret [.v 14,.v 13] ())))))
def Han:Tm Unit :=
(.call none 104 [.v 0,.v 1,.v 2,.v 3,.v 4] 1 [] <|
(.lt none .len [.v 10] 1 <|
(.bind 1
(.loop [.c (.int .i64 0)]
(.lt none (.bin .lss) [.v 12,.v 11] 1 <|
(.ite (.v 13)
(.lt none .inb [.v 10,.v 12] 0 <|
(.lt none (.row 1 0 [true]) [.v 10,.v 12] 1 <|
(.call none 104 [.v 5,.v 6,.v 7,.v 8,.v 9] 1 [] <|
(.call none 106 [.v 15,.v 14] 1 [] <|
(.ite (.v 16)
(.leaf .ret [.c (.bool true)] ())
(.lt none (.bin .add) [.v 12,.c (.int .i64 1)] 1 <|
(.leaf .cont [.v 17] ())))))))
(.leaf (.yield 1) [] ())))) <|
(.leaf .ret [.c (.bool false)] ()))))
def Ham:Tm Unit :=
(.lt none (.bin .eql) [.v 0,.c (.int .i64 1)] 1 <|
(.ite (.v 5)
(.lt none (.mk 1 1) [.v 2] 1 <|
(.call none 105 [.v 6,.v 3] 1 [] <|
(.leaf .ret [.v 7] ())))
(.lt none (.bin .eql) [.v 0,.c (.int .i64 2)] 1 <|
(.ite (.v 6)
(.lt none (.mk 1 1) [.v 2] 1 <|
(.leaf .ret [.v 7] ()))
(.leaf .ret [.c (.rows 1 [])] ())))))
def Maq:Tm Unit :=
(.bind 1
(.loop [.c (.int .i64 0)]
(.lt none .len [.v 0] 1 <|
(.lt none (.bin .lss) [.v 2,.v 3] 1 <|
(.lt (some (.v 4,true)) .id [.v 2] 1 <|
(.lt (some (.v 4,true)) .inb [.v 0,.v 5] 0 <|
(.lt (some (.v 4,true)) (.row 1 0 [true]) [.v 0,.v 5] 1 <|
(.lt (some (.v 4,true)) .id [.v 1] 1 <|
(.lt (some (.v 4,true)) (.bin .lss) [.v 6,.v 7] 1 <|
(.lt none .pick [.v 4,.v 8,.c (.bool false)] 1 <|
(.ite (.v 9)
(.lt none (.bin .add) [.v 2,.c (.int .i64 1)] 1 <|
(.leaf .cont [.v 10] ()))
(.leaf (.yield 1) [.v 2] ()))))))))))) <|
(.lt none .len [.v 0] 1 <|
(.lt none (.bin .lss) [.v 2,.v 3] 1 <|
(.lt (some (.v 4,true)) .id [.v 2] 1 <|
(.lt (some (.v 4,true)) .inb [.v 0,.v 5] 0 <|
(.lt (some (.v 4,true)) (.row 1 0 [true]) [.v 0,.v 5] 1 <|
(.lt (some (.v 4,true)) .id [.v 1] 1 <|
(.lt (some (.v 4,true)) (.bin .eql) [.v 6,.v 7] 1 <|
(.lt none .pick [.v 4,.v 8,.c (.bool false)] 1 <|
(.ite (.v 9)
(.leaf .ret [.v 0] ())
(.lt none (.mk 1 0) [] 1 <|
(.lt none (.sub 1 false) [.v 0,.c (.int .i64 0),.v 2] 1 <|
(.lt none (.app 1 8 true) [.v 10,.v 11] 1 <|
(.lt none (.mk 1 1) [.v 1] 1 <|
(.lt none (.app 1 8 true) [.v 12,.v 13] 1 <|
(.lt none .len [.v 0] 1 <|
(.lt none (.sub 1 false) [.v 0,.v 2,.v 15] 1 <|
(.lt none (.app 1 8 true) [.v 14,.v 16] 1 <|
(.leaf .ret [.v 17] ())))))))))))))))))))
def Mao:Tm Unit :=
(.lt none .len [.v 0] 1 <|
(.bind 1
(.loop [.c (.int .i64 0)]
(.lt none (.bin .lss) [.v 3,.v 2] 1 <|
(.ite (.v 4)
(.lt none .inb [.v 0,.v 3] 0 <|
(.lt none (.row 1 0 [true]) [.v 0,.v 3] 1 <|
(.lt none (.bin .eql) [.v 5,.v 1] 1 <|
(.ite (.v 6)
(.leaf .ret [.c (.bool true)] ())
(.lt none (.bin .add) [.v 3,.c (.int .i64 1)] 1 <|
(.leaf .cont [.v 7] ()))))))
(.leaf (.yield 1) [] ())))) <|
(.leaf .ret [.c (.bool false)] ())))
def Man:Tm Unit :=
(.lt none (.bin .gtr) [.v 0,.v 1] 1 <|
(.ite (.v 2)
(.leaf .ret [.v 0] ())
(.leaf .ret [.v 1] ())))
def Mam:Tm Unit :=
(.call none 109 [.v 0,.v 1] 2 [] <|
(.bind 1
(.loop [.v 15]
(.lt none .inb [.v 16,.v 2] 0 <|
(.lt none (.row 1 0 [false]) [.v 16,.v 2] 1 <|
(.lt none .len [.v 17] 1 <|
(.lt none (.bin .lss) [.v 18,.v 3] 1 <|
(.ite (.v 19)
(.lt none .inb [.v 16,.v 2] 0 <|
(.lt none (.row 1 0 [false]) [.v 16,.v 2] 1 <|
(.call none 10 [.v 0] 2 [] <|
(.lt none (.mk 10 1) [.c (.int .i64 0),.c (.int .i64 0),.c (.int .i64 0),.c (.int .i64 0),.c (.int .i64 0),.c (.int .i64 0),.c (.int .i64 0),.c (.int .i64 0),.v 21,.v 22] 1 <|
(.lt none (.set 1 0 1) [.v 16,.v 2,.c .hole] 1 <|
(.lt none (.app 10 96 false) [.v 20,.v 23] 1 <|
(.lt none .inb [.v 24,.v 2] 0 <|
(.lt none (.set 1 0 1) [.v 24,.v 2,.v 25] 1 <|
(.leaf .cont [.v 26] ())))))))))
(.leaf (.yield 1) [.v 16] ()))))))) <|
(.lt none .inb [.v 16,.v 2] 0 <|
(.lt none (.row 1 0 [false]) [.v 16,.v 2] 1 <|
(.lt none (.bin .sub) [.v 3,.c (.int .i64 1)] 1 <|
(.call none 110 [.v 4,.v 5,.v 6,.v 7,.v 8,.v 9,.v 10,.v 11,.v 12,.v 13] 10 [] <|
(.lt none .inb [.v 17,.v 18] 0 <|
(.lt none (.set 10 0 10) [.v 17,.v 18,.v 19,.v 20,.v 21,.v 22,.v 23,.v 24,.v 25,.v 26,.v 27,.v 28] 1 <|
(.lt none (.set 1 0 1) [.v 16,.v 2,.v 29] 1 <|
(.leaf .ret [.v 14,.v 30] ()))))))))))
def Hal:Tm Unit :=
(.call none 100 [.v 0] 2 [] <|
(.lt none .len [.v 1] 1 <|
(.bind 1
(.loop [.c (.int .i64 0),.v 3]
(.lt none (.bin .lss) [.v 5,.v 4] 1 <|
(.ite (.v 7)
(.lt none .inb [.v 1,.v 5] 0 <|
(.lt none (.row 1 0 [false]) [.v 1,.v 5] 1 <|
(.lt none .len [.v 8] 1 <|
(.bind 3
(.loop [.c (.int .i64 0),.v 6]
(.lt none (.bin .lss) [.v 10,.v 9] 1 <|
(.ite (.v 12)
(.lt none .inb [.v 8,.v 10] 0 <|
(.lt none (.row 10 0 [true,true,true,true,true,true,true,true,true,false]) [.v 8,.v 10] 10 <|
(.lt none .inb [.v 11,.v 5] 0 <|
(.lt none (.row 1 0 [false]) [.v 11,.v 5] 1 <|
(.call none 110 [.v 13,.v 14,.v 15,.v 16,.v 17,.v 18,.v 19,.v 20,.v 21,.v 22] 10 [] <|
(.lt none (.mk 10 1) [.v 24,.v 25,.v 26,.v 27,.v 28,.v 29,.v 30,.v 31,.v 32,.v 33] 1 <|
(.lt none (.set 1 0 1) [.v 11,.v 5,.c .hole] 1 <|
(.lt none (.app 10 96 false) [.v 23,.v 34] 1 <|
(.lt none .inb [.v 35,.v 5] 0 <|
(.lt none (.set 1 0 1) [.v 35,.v 5,.v 36] 1 <|
(.lt none (.bin .add) [.v 10,.c (.int .i64 1)] 1 <|
(.leaf .cont [.v 38,.v 37] ()))))))))))))
(.leaf (.yield 3) [.v 11] ())))) <|
(.lt none (.bin .add) [.v 5,.c (.int .i64 1)] 1 <|
(.leaf .cont [.v 11,.v 10] ()))))))
(.leaf (.yield 1) [.v 6] ())))) <|
(.leaf .ret [.v 2,.v 5] ()))))
def Mal:Tm Unit :=
(.call none 111 [.v 8,.v 9] 2 [] <|
(.leaf .ret [.v 0,.v 1,.v 2,.v 3,.v 4,.v 5,.v 6,.v 7,.v 10,.v 11] ()))
def Mak:Tm Unit :=
(.call none 112 [.v 1] 1 [] <|
(.leaf .ret [.v 0,.v 2] ()))
def Maj:Tm Unit :=
(.lt none (.mk 1 0) [] 1 <|
(.lt none (.app 1 8 true) [.v 1,.v 0] 1 <|
(.leaf .ret [.v 2] ())))
def Mai:Tm Unit :=
(.call none 114 [.v 0,.v 1] 1 [] <|
(.lt none .not [.v 2] 1 <|
(.ite (.v 3)
(.leaf .ret [.c (.str []),.c (.bool false)] ())
(.lt none .len [.v 1] 1 <|
(.bind 1
(.loop [.c (.str []),.c (.int .i64 0)]
(.lt none (.bin .lss) [.v 6,.v 4] 1 <|
(.ite (.v 7)
(.lt none .inb [.v 1,.v 6] 0 <|
(.lt none (.row 1 0 [false]) [.v 1,.v 6] 1 <|
(.lt none .len [.v 8] 1 <|
(.bind 3
(.loop [.v 5,.c (.int .i64 0)]
(.lt none (.bin .lss) [.v 11,.v 9] 1 <|
(.ite (.v 12)
(.lt none .inb [.v 8,.v 11] 0 <|
(.lt none (.row 10 0 [true,true,true,true,true,true,true,true,true,false]) [.v 8,.v 11] 10 <|
(.lt none (.bin .add) [.v 11,.c (.int .i64 1)] 1 <|
(.call none 52 [.v 6,.v 23,.v 13,.v 14,.v 15,.v 16,.v 17,.v 18,.v 19,.v 20,.v 21,.v 22] 1 [] <|
(.call none 96 [.v 24] 1 [] <|
(.lt none (.bin .add) [.v 10,.v 25] 1 <|
(.lt none (.bin .add) [.v 11,.c (.int .i64 1)] 1 <|
(.leaf .cont [.v 26,.v 27] ()))))))))
(.leaf (.yield 3) [.v 10] ())))) <|
(.lt none (.bin .add) [.v 6,.c (.int .i64 1)] 1 <|
(.leaf .cont [.v 10,.v 11] ()))))))
(.leaf (.yield 1) [.v 5] ())))) <|
(.lt none .slen [.v 5] 1 <|
(.lt none (.bin .gtr) [.v 6,.c (.int .i64 20000)] 1 <|
(.ite (.v 7)
(.leaf .ret [.c (.str []),.c (.bool false)] ())
(.leaf .ret [.v 5,.c (.bool true)] ())))))))))
def Mah:Tm Unit :=
(.call none 41 [.v 0] 1 [] <|
(.lt none .not [.v 2] 1 <|
(.lt (some (.v 3,false)) .len [.v 1] 1 <|
(.lt (some (.v 3,false)) .id [.v 0] 1 <|
(.lt (some (.v 3,false)) (.bin .neq) [.v 4,.v 5] 1 <|
(.lt none .pick [.v 3,.c (.bool true),.v 6] 1 <|
(.ite (.v 7)
(.leaf .ret [.c (.bool false)] ())
(.lt none .len [.v 1] 1 <|
(.bind 1
(.loop [.c (.int .i64 0)]
(.lt none (.bin .lss) [.v 9,.v 8] 1 <|
(.ite (.v 10)
(.lt none .inb [.v 1,.v 9] 0 <|
(.lt none (.row 1 0 [false]) [.v 1,.v 9] 1 <|
(.lt none .len [.v 11] 1 <|
(.bind 3
(.loop [.c (.int .i64 0)]
(.lt none (.bin .lss) [.v 13,.v 12] 1 <|
(.ite (.v 14)
(.lt none .inb [.v 11,.v 13] 0 <|
(.lt none (.row 10 0 [true,true,true,true,true,true,true,true,true,false]) [.v 11,.v 13] 10 <|
(.call none 44 [.v 0,.v 15,.v 16,.v 17,.v 18,.v 19,.v 20,.v 21,.v 22,.v 23,.v 24] 1 [] <|
(.lt none .not [.v 25] 1 <|
(.ite (.v 26)
(.leaf .ret [.c (.bool false)] ())
(.lt none (.bin .add) [.v 13,.c (.int .i64 1)] 1 <|
(.leaf .cont [.v 27] ())))))))
(.leaf (.yield 3) [] ())))) <|
(.lt none .len [.v 11] 1 <|
(.lt none (.bin .gtr) [.v 13,.c (.int .i64 6)] 1 <|
(.ite (.v 14)
(.leaf .ret [.c (.bool false)] ())
(.lt none (.bin .add) [.v 9,.c (.int .i64 1)] 1 <|
(.leaf .cont [.v 15] ())))))))))
(.leaf (.yield 1) [] ())))) <|
(.leaf .ret [.c (.bool true)] ()))))))))))
def Mag:Tm Unit :=
(.call none 40 [.v 0,.v 2,.v 3,.v 4,.v 5,.v 6,.v 7,.v 8,.v 9,.v 10,.v 11,.v 12,.v 13] 2 [] <|
(.lt none .not [.v 15] 1 <|
(.lt (some (.v 16,false)) .id [.v 1] 1 <|
(.lt (some (.v 16,false)) .slen [.v 17] 1 <|
(.lt (some (.v 16,false)) (.bin .gtr) [.v 18,.c (.int .i64 20000)] 1 <|
(.lt none .pick [.v 16,.c (.bool true),.v 19] 1 <|
(.ite (.v 20)
(.leaf .ret [.c (.str []),.c (.bool false)] ())
(.call none 116 [.v 0,.v 1] 3 [] <|
(.call none 96 [.v 14] 1 [] <|
(.lt none (.bin .add) [.v 1,.v 24] 1 <|
(.lt none .slen [.v 1] 1 <|
(.lt none (.bin .lss) [.v 23,.v 26] 1 <|
(.lt (some (.v 27,false)) .id [.v 25] 1 <|
(.lt (some (.v 27,false)) .slen [.v 28] 1 <|
(.lt (some (.v 27,false)) (.bin .gtr) [.v 29,.c (.int .i64 20000)] 1 <|
(.lt none .pick [.v 27,.c (.bool true),.v 30] 1 <|
(.ite (.v 31)
(.leaf .ret [.c (.str []),.c (.bool false)] ())
(.leaf .ret [.v 25,.c (.bool true)] ()))))))))))))))))))
def Maf:Tm Unit :=
(.call none 100 [.v 0] 2 [] <|
(.call none 117 [.v 1] 2 [] <|
(.lt none .len [.v 4] 1 <|
(.bind 1
(.loop [.c (.int .i64 0),.c (.int .i64 0),.v 2,.v 3]
(.lt none (.bin .lss) [.v 8,.v 6] 1 <|
(.ite (.v 11)
(.lt none .inb [.v 4,.v 8] 0 <|
(.lt none (.row 1 0 [true]) [.v 4,.v 8] 1 <|
(.call none 88 [.v 0,.v 12] 13 [] <|
(.lt none .not [.v 25] 1 <|
(.ite (.v 26)
(.leaf (.yield 1) [.v 7,.v 9,.v 10] ())
(.call none 108 [.v 9,.v 10,.v 13,.v 14,.v 15,.v 16,.v 17,.v 18,.v 19,.v 20,.v 21,.v 22,.v 23,.v 24] 2 [] <|
(.lt none (.dep 99) [.v 28] 0 <|
(.lt none .slen [.v 12] 1 <|
(.lt none (.bin .add) [.v 29,.c (.int .i64 4)] 1 <|
(.lt none (.bin .add) [.v 7,.v 30] 1 <|
(.lt none (.bin .add) [.v 8,.c (.int .i64 1)] 1 <|
(.leaf .cont [.v 31,.v 32,.v 27,.v 28] ()))))))))))))
(.leaf (.yield 1) [.v 7,.v 9,.v 10] ())))) <|
(.leaf .ret [.v 8,.v 9,.v 7] ())))))
def Mae:Tm Unit :=
(.bind 1
(.loop [.c (.rows 1 []),.c (.int .i64 0)]
(.lt none .slen [.v 0] 1 <|
(.lt none (.bin .lss) [.v 2,.v 3] 1 <|
(.ite (.v 4)
(.lt none .sidx [.v 0,.v 2] 1 <|
(.lt none (.conv .i64) [.v 5] 1 <|
(.lt none (.bin .gtr) [.v 6,.c (.int .i64 200)] 1 <|
(.lt (some (.v 7,false)) .id [.v 2] 1 <|
(.lt (some (.v 7,false)) .id [.v 6] 1 <|
(.lt (some (.v 7,false)) (.bin .add) [.v 8,.v 9] 1 <|
(.lt (some (.v 7,false)) (.bin .add) [.v 10,.c (.int .i64 4)] 1 <|
(.lt (some (.v 7,false)) .id [.v 0] 1 <|
(.lt (some (.v 7,false)) .slen [.v 12] 1 <|
(.lt (some (.v 7,false)) (.bin .gtr) [.v 11,.v 13] 1 <|
(.lt none .pick [.v 7,.c (.bool true),.v 14] 1 <|
(.ite (.v 15)
(.leaf (.yield 1) [.v 1,.v 2] ())
(.lt none (.bin .add) [.v 2,.c (.int .i64 1)] 1 <|
(.lt none (.bin .add) [.v 2,.c (.int .i64 1)] 1 <|
(.lt none (.bin .add) [.v 17,.v 6] 1 <|
(.lt none .ssub [.v 0,.v 16,.v 18] 1 <|
(.call none 96 [.v 19] 1 [] <|
(.lt none (.bin .add) [.v 2,.v 6] 1 <|
(.lt none (.bin .add) [.v 21,.c (.int .i64 4)] 1 <|
(.lt none .ssub [.v 0,.v 2,.v 22] 1 <|
(.lt none (.bin .neq) [.v 20,.v 23] 1 <|
(.ite (.v 24)
(.leaf (.yield 1) [.v 1,.v 2] ())
(.lt none (.mk 1 1) [.v 19] 1 <|
(.lt none (.app 1 16 true) [.v 1,.v 25] 1 <|
(.lt none (.bin .add) [.v 6,.c (.int .i64 4)] 1 <|
(.lt none (.bin .add) [.v 2,.v 27] 1 <|
(.leaf .cont [.v 26,.v 28] ())))))))))))))))))))))))))))
(.leaf (.yield 1) [.v 1,.v 2] ()))))) <|
(.leaf .ret [.v 1,.v 2] ()))
def Mad:Tm Unit :=
(.lt none .slen [.v 0] 1 <|
(.lt none (.bin .gtr) [.v 1,.c (.int .i64 20000)] 1 <|
(.ite (.v 2)
(.leaf .ret [.c (.rows 1 []),.c (.int .i64 0),.c (.bool false)] ())
(.call none 117 [.v 0] 2 [] <|
(.leaf .ret [.v 3,.v 4,.c (.bool true)] ())))))
def Mac:Tm Unit :=
(.call none 98 [.v 0,.c (.int .i64 0),.c (.int .u64 0)] 5 [] <|
(.leaf .ret [.v 1,.v 2] ()))
def Mab:Tm Unit :=
(.call none 13 [.v 0] 1 [] <|
(.lt none .not [.v 2] 1 <|
(.lt (some (.v 3,false)) .id [.v 1] 1 <|
(.lt (some (.v 3,false)) .slen [.v 4] 1 <|
(.lt (some (.v 3,false)) (.bin .gtr) [.v 5,.c (.int .i64 20000)] 1 <|
(.lt none .pick [.v 3,.c (.bool true),.v 6] 1 <|
(.ite (.v 7)
(.leaf .ret [.c (.int .i64 0),.c (.rows 1 []),.c (.int .i64 0),.c (.bool false)] ())
(.call none 121 [.v 0] 2 [] <|
(.call none 82 [.v 1] 1 [] <|
(.lt none .len [.v 10] 1 <|
(.bind 1
(.loop [.c (.int .i64 0),.c (.int .i64 0),.v 8,.v 9]
(.lt none (.bin .lss) [.v 13,.v 11] 1 <|
(.ite (.v 16)
(.lt none .inb [.v 10,.v 13] 0 <|
(.lt none (.row 1 0 [true]) [.v 10,.v 13] 1 <|
(.call none 57 [.v 0,.v 17] 13 [] <|
(.lt none .not [.v 30] 1 <|
(.ite (.v 31)
(.leaf (.yield 1) [.v 12,.v 14,.v 15] ())
(.call none 122 [.v 18,.v 19,.v 20,.v 21,.v 22,.v 23,.v 24,.v 25,.v 26,.v 27,.v 28,.v 29,.v 14,.v 15] 2 [] <|
(.lt none (.dep 99) [.v 33] 0 <|
(.lt none .slen [.v 17] 1 <|
(.lt none (.bin .add) [.v 34,.c (.int .i64 4)] 1 <|
(.lt none (.bin .add) [.v 12,.v 35] 1 <|
(.lt none (.bin .add) [.v 13,.c (.int .i64 1)] 1 <|
(.leaf .cont [.v 36,.v 37,.v 32,.v 33] ()))))))))))))
(.leaf (.yield 1) [.v 12,.v 14,.v 15] ())))) <|
(.leaf .ret [.v 13,.v 14,.v 12,.c (.bool true)] ()))))))))))))
def Maa:Tm Unit :=
(.lt none (.make 24 [(.rows 10 [])]) [.v 0] 1 <|
(.leaf .ret [.v 0,.v 1] ()))
def La9:Tm Unit :=
(.bind 1
(.loop [.v 13]
(.lt none .inb [.v 14,.v 0] 0 <|
(.lt none (.row 1 0 [false]) [.v 14,.v 0] 1 <|
(.lt none .len [.v 15] 1 <|
(.lt none (.bin .lss) [.v 16,.v 1] 1 <|
(.ite (.v 17)
(.lt none .inb [.v 14,.v 0] 0 <|
(.lt none (.row 1 0 [false]) [.v 14,.v 0] 1 <|
(.call none 22 [.v 12] 2 [] <|
(.lt none (.mk 10 1) [.c (.int .i64 0),.c (.int .i64 0),.c (.int .i64 0),.c (.int .i64 0),.c (.int .i64 0),.c (.int .i64 0),.c (.int .i64 0),.c (.int .i64 0),.v 19,.v 20] 1 <|
(.lt none (.set 1 0 1) [.v 14,.v 0,.c .hole] 1 <|
(.lt none (.app 10 96 false) [.v 18,.v 21] 1 <|
(.lt none .inb [.v 22,.v 0] 0 <|
(.lt none (.set 1 0 1) [.v 22,.v 0,.v 23] 1 <|
(.leaf .cont [.v 24] ())))))))))
(.leaf (.yield 1) [.v 14] ()))))))) <|
(.lt none .inb [.v 14,.v 0] 0 <|
(.lt none (.row 1 0 [false]) [.v 14,.v 0] 1 <|
(.lt none (.bin .sub) [.v 1,.c (.int .i64 1)] 1 <|
(.call none 123 [.v 2,.v 3,.v 4,.v 5,.v 6,.v 7,.v 8,.v 9,.v 10,.v 11] 10 [] <|
(.lt none .inb [.v 15,.v 16] 0 <|
(.lt none (.set 10 0 10) [.v 15,.v 16,.v 17,.v 18,.v 19,.v 20,.v 21,.v 22,.v 23,.v 24,.v 25,.v 26] 1 <|
(.lt none (.set 1 0 1) [.v 14,.v 0,.v 27] 1 <|
(.leaf .ret [.v 12,.v 28] ())))))))))
def La8:Tm Unit :=
(.call none 124 [.v 8,.v 9] 2 [] <|
(.leaf .ret [.v 0,.v 1,.v 2,.v 3,.v 4,.v 5,.v 6,.v 7,.v 10,.v 11] ()))
def La7:Tm Unit :=
(.call none 125 [.v 1] 1 [] <|
(.leaf .ret [.v 0,.v 2] ()))
def Hak:Tm Unit :=
(.lt none .ne [.v 0] 0 <|
(.lt none .emp [.v 0] 1 <|
(.ite (.v 1)
(.leaf .ret [.c (.rows 1 [])] ())
(.lt none (.mk 1 0) [] 1 <|
(.lt none (.app 1 8 true) [.v 2,.v 0] 1 <|
(.leaf .ret [.v 3] ()))))))
def La6:Tm Unit :=
(.call none 41 [.v 0] 1 [] <|
(.lt none .not [.v 2] 1 <|
(.lt (some (.v 3,false)) .id [.v 1] 1 <|
(.lt (some (.v 3,false)) .slen [.v 4] 1 <|
(.lt (some (.v 3,false)) (.bin .gtr) [.v 5,.c (.int .i64 20000)] 1 <|
(.lt none .pick [.v 3,.c (.bool true),.v 6] 1 <|
(.ite (.v 7)
(.leaf .ret [.c (.int .i64 0),.c (.rows 1 []),.c (.int .i64 0),.c (.bool false)] ())
(.call none 116 [.v 0,.v 1] 3 [] <|
(.leaf .ret [.v 8,.v 9,.v 10,.c (.bool true)] ())))))))))
def La5:Tm Unit :=
(.call none 98 [.v 0,.c (.int .i64 0),.c (.int .u64 0)] 5 [] <|
(.lt none .slen [.v 2] 1 <|
(.lt none (.bin .add) [.v 6,.c (.int .i64 2)] 1 <|
(.call none 4 [.v 7,.v 3,.v 4,.v 5] 4 [] <|
(.call none 4 [.c (.int .i64 20),.v 9,.v 10,.v 11] 4 [] <|
(.lt none (.bin .quo) [.v 12,.c (.int .i64 19)] 1 <|
(.lt none (.bin .sub) [.v 8,.v 16] 1 <|
(.leaf .ret [.v 2,.v 17] ()))))))))
def La4:Tm Unit :=
(.lt none .slen [.v 0] 1 <|
(.lt none (.bin .gtr) [.v 2,.c (.int .i64 20000)] 1 <|
(.lt (some (.v 3,false)) .id [.v 1] 1 <|
(.lt (some (.v 3,false)) .id [.v 0] 1 <|
(.lt (some (.v 3,false)) .slen [.v 5] 1 <|
(.call (some (.v 3,false)) 14 [.v 4,.c (.int .i64 0),.v 6] 1 [] <|
(.lt (some (.v 3,false)) .not [.v 7] 1 <|
(.lt none .pick [.v 3,.c (.bool true),.v 8] 1 <|
(.ite (.v 9)
(.leaf .ret [.c (.str []),.c (.bool false)] ())
(.lt none .ssub [.v 0,.c (.int .i64 0),.v 1] 1 <|
(.leaf .ret [.v 10,.c (.bool true)] ())))))))))))
def La3:Tm Unit :=
(.lt none .slen [.v 0] 1 <|
(.lt none (.bin .gtr) [.v 2,.c (.int .i64 20000)] 1 <|
(.lt (some (.v 3,false)) .id [.v 1] 1 <|
(.lt (some (.v 3,false)) .id [.v 0] 1 <|
(.lt (some (.v 3,false)) .slen [.v 5] 1 <|
(.call (some (.v 3,false)) 43 [.v 4,.c (.int .i64 0),.v 6] 1 [] <|
(.lt (some (.v 3,false)) .not [.v 7] 1 <|
(.lt none .pick [.v 3,.c (.bool true),.v 8] 1 <|
(.ite (.v 9)
(.leaf .ret [.c (.str []),.c (.bool false)] ())
(.lt none .ssub [.v 0,.c (.int .i64 0),.v 1] 1 <|
(.leaf .ret [.v 10,.c (.bool true)] ())))))))))))
def La2:Tm Unit :=
(.lt none .len [.v 0] 1 <|
(.lt none .len [.v 1] 1 <|
(.lt none (.bin .neq) [.v 2,.v 3] 1 <|
(.ite (.v 4)
(.leaf .ret [.c (.bool false)] ())
(.lt none .len [.v 0] 1 <|
(.bind 1
(.loop [.c (.int .i64 0)]
(.lt none (.bin .lss) [.v 6,.v 5] 1 <|
(.ite (.v 7)
(.lt none .inb [.v 0,.v 6] 0 <|
(.lt none (.row 1 0 [true]) [.v 0,.v 6] 1 <|
(.lt none .inb [.v 1,.v 6] 0 <|
(.lt none (.row 1 0 [true]) [.v 1,.v 6] 1 <|
(.lt none (.bin .neq) [.v 8,.v 9] 1 <|
(.ite (.v 10)
(.leaf .ret [.c (.bool false)] ())
(.lt none (.bin .add) [.v 6,.c (.int .i64 1)] 1 <|
(.leaf .cont [.v 11] ()))))))))
(.leaf (.yield 1) [] ())))) <|
(.leaf .ret [.c (.bool true)] ())))))))
def La1:Tm Unit :=
(.lt none (.bin .neq) [.v 0,.v 2] 1 <|
(.lt (some (.v 4,false)) .len [.v 1] 1 <|
(.lt (some (.v 4,false)) .len [.v 3] 1 <|
(.lt (some (.v 4,false)) (.bin .neq) [.v 5,.v 6] 1 <|
(.lt none .pick [.v 4,.c (.bool true),.v 7] 1 <|
(.ite (.v 8)
(.leaf .ret [.c (.bool false)] ())
(.lt none .len [.v 1] 1 <|
(.bind 1
(.loop [.c (.int .i64 0)]
(.lt none (.bin .lss) [.v 10,.v 9] 1 <|
(.ite (.v 11)
(.lt none .inb [.v 1,.v 10] 0 <|
(.lt none (.row 1 0 [false]) [.v 1,.v 10] 1 <|
(.lt none .inb [.v 3,.v 10] 0 <|
(.lt none (.row 1 0 [false]) [.v 3,.v 10] 1 <|
(.call none 132 [.v 12,.v 13] 1 [] <|
(.lt none .not [.v 14] 1 <|
(.ite (.v 15)
(.leaf .ret [.c (.bool false)] ())
(.lt none (.bin .add) [.v 10,.c (.int .i64 1)] 1 <|
(.leaf .cont [.v 16] ())))))))))
(.leaf (.yield 1) [] ())))) <|
(.leaf .ret [.c (.bool true)] ())))))))))
def La0:Tm Unit :=
(.lt none .len [.v 0] 1 <|
(.lt none .len [.v 1] 1 <|
(.lt none (.bin .neq) [.v 2,.v 3] 1 <|
(.ite (.v 4)
(.leaf .ret [.c (.bool false)] ())
(.lt none .len [.v 0] 1 <|
(.bind 1
(.loop [.c (.int .i64 0)]
(.lt none (.bin .lss) [.v 6,.v 5] 1 <|
(.ite (.v 7)
(.lt none .inb [.v 0,.v 6] 0 <|
(.lt none (.row 10 0 [true,true,true,true,true,true,true,true,true,false]) [.v 0,.v 6] 10 <|
(.lt none .inb [.v 1,.v 6] 0 <|
(.lt none (.row 10 0 [true,true,true,true,true,true,true,true,true,false]) [.v 1,.v 6] 10 <|
(.call none 83 [.v 8,.v 9,.v 10,.v 11,.v 12,.v 13,.v 14,.v 15,.v 16,.v 17,.v 18,.v 19,.v 20,.v 21,.v 22,.v 23,.v 24,.v 25,.v 26,.v 27] 1 [] <|
(.lt none .not [.v 28] 1 <|
(.ite (.v 29)
(.leaf .ret [.c (.bool false)] ())
(.lt none (.bin .add) [.v 6,.c (.int .i64 1)] 1 <|
(.leaf .cont [.v 30] ())))))))))
(.leaf (.yield 1) [] ())))) <|
(.leaf .ret [.c (.bool true)] ())))))))
theorem Pbd:∀ n,Eag Tryz.prog (Dav [(125,.tm Hak)]) n 125 Pad:=fun n=>contracts Oaq (by kernel_rfl) (Uat (List.forall_mem_cons.2 ⟨Say (E:=⟨lU tiL,[(125,Pad)],0,0,false,false,[],[]⟩) Tryz.func144 (by kernel_rfl) (tm:=Hak) (by kernel_rfl) (by kernel_rfl),List.forall_mem_nil _⟩)) n 125 Pad (by simp)
def Lbo:Go.Shelf.Ren:=⟨fun|41=>144|n=>n,fun|4=>4|22=>26|23=>3|n=>n,fun n=>n⟩
theorem Hba:Go.Proofs.SlLaysE0.n41 Tryz.prog Lbo:={ mixed:=by kernel_rfl,f41:=⟨Tryz.f144.name,by kernel_rfl,Tryz.func144.trans (congrArg some (by kernel_rfl))⟩,t4:=Tryz.underlying4,a4:=Tryz.isAgg4,z4:=Tryz.sizeOf4,v4:=Tryz.zeroValue4,t22:=Tryz.underlying26,a22:=Tryz.isAgg26,z22:=Tryz.sizeOf26,v22:=Tryz.zeroValue26 }
noncomputable def Mba:List D → Option (List D):=Ab8 1 (Dav [(125,.tm Hak)]) 125

noncomputable def T:Nat → Ent:=Dav [(0,.tm tm0),(1,.tm tm1),(2,.tm tm2),(3,.tm tm3),(4,.tm tm4),(5,.tm tm5),(6,.tm tm6),(7,.tm tm7),(8,.tm tm8),(9,.tm tm9),(10,.tm Vaj),(11,.tm Dbq),(12,.tm Dbp),(13,.tm Dbo),(14,.tm Dbi),(15,.tm Dbh),(16,.tm Dbg),(17,.tm Dbf),(18,.tm Dbe),(19,.tm Dbd),(20,.tm Dbc),(21,.tm Dbb),(22,.tm Dba),(23,.tm Cb9),(24,.tm Cb8),(25,.tm Cb7),(26,.tm Cb6),(27,.tm Cb5),(28,.tm Cb4),(29,.tm Cb3),(30,.ext Ebm),(33,.ext Nap),(38,.tm Cb2),(39,.tm Cb1),(40,.tm Cb0),(41,.tm Cbz),(42,.tm Cby),(43,.tm Cbx),(44,.tm Cbw),(45,.tm Cbv),(46,.tm Cbu),(47,.tm Cbt),(48,.tm Cbs),(49,.tm Cbr),(50,.tm Cbq),(51,.tm Ib6),(52,.tm Mby),(53,.tm Mbx),(54,.tm Ib5),(55,.tm Mbw),(56,.tm Mbv),(57,.tm Mbu),(58,.tm Mbt),(59,.tm Cbp),(60,.tm Gbk),(61,.tm Gbj),(62,.tm Gbi),(63,.tm Gbh),(64,.tm Cbo),(65,.ext Hb6),(66,.tm Cbn),(67,.tm Cbm),(68,.tm Cbl),(69,.ext ixE),(70,.tm Cbk),(71,.tm Cbj),(72,.tm Cbi),(73,.tm Cbh),(74,.tm Cbg),(75,.tm Xao),(76,.tm Xan),(77,.tm Cbf),(78,.tm Cbe),(79,.tm Cbd),(80,.tm Cbc),(81,.tm Cbb),(82,.tm Cba),(83,.tm Bb9),(84,.tm Bb8),(85,.tm Bb7),(86,.tm Bb6),(87,.tm Bb5),(88,.tm Gbg),(89,.tm Gbf),(90,.tm Gbe),(91,.tm Gbd),(92,.tm Bb4),(93,.tm Ib2),(94,.tm Bb3),(95,.tm Bb2),(96,.tm Bb1),(97,.tm Ib1),(98,.tm Bb0),(99,.tm Bbz),(100,.tm Hao),(101,.tm Mas),(102,.tm Mar),(103,.tm Han),(104,.tm Ham),(105,.tm Maq),(106,.tm Mao),(107,.tm Man),(108,.tm Mam),(109,.tm Hal),(110,.tm Mal),(111,.tm Mak),(112,.tm Maj),(113,.tm Mai),(114,.tm Mah),(115,.tm Mag),(116,.tm Maf),(117,.tm Mae),(118,.tm Mad),(119,.tm Mac),(120,.tm Mab),(121,.tm Maa),(122,.tm La9),(123,.tm La8),(124,.tm La7),(125,.ext Mba),(126,.tm La6),(127,.tm La5),(128,.tm La4),(129,.tm La3),(130,.tm La2),(131,.tm La1),(132,.tm La0)]
abbrev K:=Tam Tryz.prog T (lU tiL) sigs
theorem Oba:Tam Tryz.prog T (lU tiL) sigs 125 Pad:=Qa5 (m:=98) Hba rfl (by kernel_rfl) Tryz.sizeOf3 Pbd rfl
theorem o65:K 65 Jb8:=Ab4 (fun s c w=>by rw[run_callFunc_extern Tryz.func160 (by kernel_rfl) (by kernel_rfl) (by kernel_rfl) (e:=Extern.BytealgCount.count) (by kernel_rfl),Lib.run_countString];rfl) rfl
theorem o69:K 69 Jb4:=Fbv (fun s c w=>by rw[run_callFunc_extern Tryz.func180 (by kernel_rfl) (by kernel_rfl) (by kernel_rfl) (e:=Extern.BytealgIndexByte.indexByte) (by kernel_rfl),Lib.run_indexByteString];rfl) rfl
def Tryz.lays156_ren:Go.Shelf.Ren:=⟨fun|156=>156|165=>164|166=>165|169=>166|240=>174|241=>175|276=>182|277=>183|n=>n,fun|31=>53|9=>9|3=>3|4=>4|0=>0|20=>20|72=>166|76=>170|70=>164|37=>22|75=>169|127=>175|164=>188|5=>5|80=>172|n=>n,fun|n=>n⟩
theorem Tryz.lays156:Go.Proofs.Lays.n156 Tryz.prog Tryz.lays156_ren:={
  mixed:=by kernel_rfl
  f156:=Tryz.func156.trans (congrArg some (by kernel_rfl))
  f165:=Tryz.func164.trans (congrArg some (by kernel_rfl))
  f166:=Tryz.func165.trans (congrArg some (by kernel_rfl))
  f169:=Tryz.func166.trans (congrArg some (by kernel_rfl))
  f240:=Tryz.func174.trans (congrArg some (by kernel_rfl))
  f241:=Tryz.func175.trans (congrArg some (by kernel_rfl))
  f276:=Tryz.func182.trans (congrArg some (by kernel_rfl))
  f277:=Tryz.func183.trans (congrArg some (by kernel_rfl))
  t0:=Tryz.underlying0
  a0:=Tryz.isAgg0
  z0:=Tryz.sizeOf0
  v0:=Tryz.zeroValue0
  t3:=Tryz.underlying3
  a3:=Tryz.isAgg3
  z3:=Tryz.sizeOf3
  v3:=Tryz.zeroValue3
  t4:=Tryz.underlying4
  a4:=Tryz.isAgg4
  z4:=Tryz.sizeOf4
  v4:=Tryz.zeroValue4
  t9:=Tryz.underlying9
  a9:=Tryz.isAgg9
  z9:=Tryz.sizeOf9
  v9:=Tryz.zeroValue9
  t20:=Tryz.underlying20
  a20:=Tryz.isAgg20
  z20:=Tryz.sizeOf20
  v20:=Tryz.zeroValue20
  t31:=Tryz.underlying53
  a31:=Tryz.isAgg53
  z31:=Tryz.sizeOf53
  v31:=Tryz.zeroValue53
  t37:=Tryz.underlying22
  a37:=Tryz.isAgg22
  z37:=Tryz.sizeOf22
  v37:=Tryz.zeroValue22
  t70:=Tryz.underlying164
  a70:=Tryz.isAgg164
  z70:=Tryz.sizeOf164
  v70:=Tryz.zeroValue164
  t72:=Tryz.underlying166
  a72:=Tryz.isAgg166
  z72:=Tryz.sizeOf166
  v72:=Tryz.zeroValue166
  t75:=Tryz.underlying169
  a75:=Tryz.isAgg169
  z75:=Tryz.sizeOf169
  v75:=Tryz.zeroValue169
  t76:=Tryz.underlying170
  a76:=Tryz.isAgg170
  z76:=Tryz.sizeOf170
  v76:=Tryz.zeroValue170
  t127:=Tryz.underlying175
  a127:=Tryz.isAgg175
  z127:=Tryz.sizeOf175
  v127:=Tryz.zeroValue175
  t164:=Tryz.underlying188
  a164:=Tryz.isAgg188
  z164:=Tryz.sizeOf188
  v164:=Tryz.zeroValue188 }
theorem extra:Go.Proofs.Builder.Extra Tryz.prog Tryz.lays156_ren:={ sizeBuilder:=by kernel_rfl,liesBuilder:=by kernel_rfl,t5:=Tryz.underlying5,a5:=Tryz.isAgg5,z5:=Tryz.sizeOf5,v5:=Tryz.zeroValue5,infoByte:=by kernel_rfl,cellsByte:=by kernel_rfl,sizeByte:=by kernel_rfl,neB5:=by decide }
theorem o33:K 33 Kbu:=.inr ⟨Nap,rfl,Za1 Tryz.lays156 extra⟩
def Tryz.laysM246_ren:Go.Shelf.Ren:=⟨fun|246=>167|283=>176|284=>177|285=>178|286=>179|129=>185|317=>184|318=>186|319=>187|320=>188|337=>189|338=>190|n=>n,fun|2=>2|3=>3|9=>9|4=>4|171=>176|0=>0|53=>97|37=>22|5=>5|173=>179|212=>192|51=>185|20=>20|213=>193|46=>152|232=>196|233=>197|n=>n,fun|17=>3|18=>4|19=>5|n=>n⟩
theorem Tryz.laysM246:Go.Proofs.LaysM.n246 Tryz.prog Tryz.laysM246_ren:={
  mixed:=by kernel_rfl
  f129:=Tryz.func185.trans (congrArg some (by kernel_rfl))
  f246:=Tryz.func167.trans (congrArg some (by kernel_rfl))
  f283:=Tryz.func176.trans (congrArg some (by kernel_rfl))
  f284:=Tryz.func177.trans (congrArg some (by kernel_rfl))
  f285:=Tryz.func178.trans (congrArg some (by kernel_rfl))
  f286:=Tryz.func179.trans (congrArg some (by kernel_rfl))
  f317:=Tryz.func184.trans (congrArg some (by kernel_rfl))
  f318:=Tryz.func186.trans (congrArg some (by kernel_rfl))
  f319:=Tryz.func187.trans (congrArg some (by kernel_rfl))
  f320:=Tryz.func188.trans (congrArg some (by kernel_rfl))
  f337:=Tryz.func189.trans (congrArg some (by kernel_rfl))
  f338:=Tryz.func190.trans (congrArg some (by kernel_rfl))
  t0:=Tryz.underlying0
  a0:=Tryz.isAgg0
  z0:=Tryz.sizeOf0
  v0:=Tryz.zeroValue0
  t2:=Tryz.underlying2
  a2:=Tryz.isAgg2
  z2:=Tryz.sizeOf2
  v2:=Tryz.zeroValue2
  t3:=Tryz.underlying3
  a3:=Tryz.isAgg3
  z3:=Tryz.sizeOf3
  v3:=Tryz.zeroValue3
  t4:=Tryz.underlying4
  a4:=Tryz.isAgg4
  z4:=Tryz.sizeOf4
  v4:=Tryz.zeroValue4
  t5:=Tryz.underlying5
  a5:=Tryz.isAgg5
  z5:=Tryz.sizeOf5
  v5:=Tryz.zeroValue5
  t9:=Tryz.underlying9
  a9:=Tryz.isAgg9
  z9:=Tryz.sizeOf9
  v9:=Tryz.zeroValue9
  t20:=Tryz.underlying20
  a20:=Tryz.isAgg20
  z20:=Tryz.sizeOf20
  v20:=Tryz.zeroValue20
  t37:=Tryz.underlying22
  a37:=Tryz.isAgg22
  z37:=Tryz.sizeOf22
  v37:=Tryz.zeroValue22
  t46:=Tryz.underlying152
  a46:=Tryz.isAgg152
  z46:=Tryz.sizeOf152
  v46:=Tryz.zeroValue152
  t51:=Tryz.underlying185
  a51:=Tryz.isAgg185
  z51:=Tryz.sizeOf185
  v51:=Tryz.zeroValue185
  t53:=Tryz.underlying97
  a53:=Tryz.isAgg97
  z53:=Tryz.sizeOf97
  v53:=Tryz.zeroValue97
  t171:=Tryz.underlying176
  a171:=Tryz.isAgg176
  z171:=Tryz.sizeOf176
  v171:=Tryz.zeroValue176
  t173:=Tryz.underlying179
  a173:=Tryz.isAgg179
  z173:=Tryz.sizeOf179
  v173:=Tryz.zeroValue179
  t212:=Tryz.underlying192
  a212:=Tryz.isAgg192
  z212:=Tryz.sizeOf192
  v212:=Tryz.zeroValue192
  t213:=Tryz.underlying193
  a213:=Tryz.isAgg193
  z213:=Tryz.sizeOf193
  t232:=Tryz.underlying196
  a232:=Tryz.isAgg196
  z232:=Tryz.sizeOf196
  v232:=Tryz.zeroValue196
  t233:=Tryz.underlying197
  a233:=Tryz.isAgg197
  z233:=Tryz.sizeOf197
  v233:=Tryz.zeroValue197
  g17:=by kernel_rfl
  g18:=by kernel_rfl
  g19:=by kernel_rfl
  i0:=by kernel_rfl
  i2:=by kernel_rfl
  i3:=by kernel_rfl
  i4:=by kernel_rfl
  i5:=by kernel_rfl
  i9:=by kernel_rfl
  i20:=by kernel_rfl
  i37:=by kernel_rfl
  i46:=by kernel_rfl
  i51:=by kernel_rfl
  i53:=by kernel_rfl
  i171:=by kernel_rfl
  i173:=by kernel_rfl
  i212:=by kernel_rfl
  i232:=by kernel_rfl
  i233:=by kernel_rfl
  m17:=by kernel_rfl
  m18:=by kernel_rfl
  m19:=by kernel_rfl }
theorem o30:Ja7 Tryz.prog (vH Tryz.prog) T (lU tiL) sigs 30 Kbv:=.inr ⟨Ebm,rfl,Fbz Tryz.laysM246⟩
theorem Zad {W:World}{l:List (String×DataW Unit)}(h:laidMet Tryz.prog l W)(hm:(Eam,Lib.tabData .u64 Lib.pow10Tab)∈l):vH Tryz.prog (fun _=>.frz) W:=Uad (g:=3) (t:=192) (by kernel_rfl) (by kernel_rfl) Tryz.underlying192 Tryz.underlying97 (by kernel_rfl) (by kernel_rfl) h hm
theorem o0:K 0 sg0:=fnK (E:=E0) (tm:=tm0) Tryz.func5 (by kernel_rfl)
theorem o1:K 1 sg1:=fnK (E:=E0) (tm:=tm1) Tryz.func6 (by kernel_rfl)
theorem o2:K 2 sg2:=fnK (E:=E0) (tm:=tm2) Tryz.func33 (by kernel_rfl)
theorem o3:K 3 sg3:=fnK (E:=E0) (tm:=tm3) Tryz.func105 (by kernel_rfl)
theorem o4:K 4 sg4:=fnK (E:=E0) (tm:=tm4) Tryz.func85 (by kernel_rfl)
theorem o5:K 5 sg5:=fnK (E:=E0) (tm:=tm5) Tryz.func127 (by kernel_rfl)
theorem o6:K 6 sg6:=fnK (E:=E0) (tm:=tm6) Tryz.func102 (by kernel_rfl)
theorem o7:K 7 sg7:=fnK (E:=E0) (tm:=tm7) Tryz.func103 (by kernel_rfl)
theorem o8:K 8 sg8:=fnK (E:=E0) (tm:=tm8) Tryz.func129 (by kernel_rfl)
theorem o9:K 9 sg9:=fnK (E:=E0) (tm:=tm9) Tryz.func78 (by kernel_rfl)
theorem o10:K 10 Lbk:=fnK (E:=E0) (tm:=Vaj) Tryz.func69 (by kernel_rfl)
theorem o11:K 11 Lbj:=fnK (E:=E0) (tm:=Dbq) Tryz.func34 (by kernel_rfl)
theorem o12:K 12 Lbi:=fnK (E:=E0) (tm:=Dbp) Tryz.func55 (by kernel_rfl)
theorem o13:K 13 Lbh:=fnK (E:=E0) (tm:=Dbo) Tryz.func71 (by kernel_rfl)
theorem o14:K 14 Lbb:=fnK (E:=E0) (tm:=Dbi) Tryz.func54 (by kernel_rfl)
theorem o15:K 15 Lba:=fnK (E:=E0) (tm:=Dbh) Tryz.func56 (by kernel_rfl)
theorem o16:K 16 Kb9:=fnK (E:=E0) (tm:=Dbg) Tryz.func58 (by kernel_rfl)
theorem o17:K 17 Kb8:=fnK (E:=E0) (tm:=Dbf) Tryz.func114 (by kernel_rfl)
theorem o18:K 18 Kb7:=fnK (E:=E0) (tm:=Dbe) Tryz.func59 (by kernel_rfl)
theorem o19:K 19 Kb6:=fnK (E:=E0) (tm:=Dbd) Tryz.func115 (by kernel_rfl)
theorem o20:K 20 Kb5:=fnK (E:=E0) (tm:=Dbc) Tryz.func145 (by kernel_rfl)
theorem o21:K 21 Kb4:=fnK (E:=E0) (tm:=Dbb) Tryz.func116 (by kernel_rfl)
theorem o22:K 22 Kb3:=fnK (E:=E0) (tm:=Dba) Tryz.func61 (by kernel_rfl)
theorem o23:K 23 Kb2:=fnK (E:=E0) (tm:=Cb9) Tryz.func60 (by kernel_rfl)
theorem o24:K 24 Kb1:=fnK (E:=E0) (tm:=Cb8) Tryz.func117 (by kernel_rfl)
theorem o25:K 25 Kb0:=fnK (E:=E0) (tm:=Cb7) Tryz.func91 (by kernel_rfl)
theorem o26:K 26 Kbz:=fnK (E:=E0) (tm:=Cb6) Tryz.func109 (by kernel_rfl)
theorem o27:K 27 Kby:=fnK (E:=E0) (tm:=Cb5) Tryz.func142 (by kernel_rfl)
theorem o28:K 28 Kbx:=fnK (E:=E0) (tm:=Cb4) Tryz.func143 (by kernel_rfl)
theorem o29:K 29 Kbw:=fnK (E:=E0) (tm:=Cb3) Tryz.func157 (by kernel_rfl)
theorem o38:K 38 Kbt:=fnK (E:=E0) (tm:=Cb2) Tryz.func110 (by kernel_rfl)
theorem o39:K 39 Kbs:=fnK (E:=E0) (tm:=Cb1) Tryz.func111 (by kernel_rfl)
theorem o40:K 40 Kbr:=fnK (E:=E0) (tm:=Cb0) Tryz.func35 (by kernel_rfl)
theorem o41:K 41 Kbq:=fnK (E:=E0) (tm:=Cbz) Tryz.func62 (by kernel_rfl)
theorem o42:K 42 Kbp:=fnK (E:=E0) (tm:=Cby) Tryz.func64 (by kernel_rfl)
theorem o43:K 43 Kbo:=fnK (E:=E0) (tm:=Cbx) Tryz.func63 (by kernel_rfl)
theorem o44:K 44 Kbn:=fnK (E:=E0) (tm:=Cbw) Tryz.func65 (by kernel_rfl)
theorem o45:K 45 Kbm:=fnK (E:=E0) (tm:=Cbv) Tryz.func68 (by kernel_rfl)
theorem o46:K 46 Kbl:=fnK (E:=E0) (tm:=Cbu) Tryz.func120 (by kernel_rfl)
theorem o47:K 47 Kbk:=fnK (E:=E0) (tm:=Cbt) Tryz.func67 (by kernel_rfl)
theorem o48:K 48 Kbj:=fnK (E:=E0) (tm:=Cbs) Tryz.func119 (by kernel_rfl)
theorem o49:K 49 Kbi:=fnK (E:=E0) (tm:=Cbr) Tryz.func146 (by kernel_rfl)
theorem o50:K 50 Kbh:=fnK (E:=E0) (tm:=Cbq) Tryz.func66 (by kernel_rfl)
theorem o51:K 51 Kbg:=fnK (E:=E0) (tm:=Ib6) Tryz.func118 (by kernel_rfl)
theorem o52:K 52 Pbv:=fnK (E:=E0) (tm:=Mby) Tryz.func95 (by kernel_rfl)
theorem o53:K 53 Pbu:=fnK (E:=E0) (tm:=Mbx) Tryz.func51 (by kernel_rfl)
theorem o54:K 54 Kbf:=fnK (E:=E0) (tm:=Ib5) Tryz.func52 (by kernel_rfl)
theorem o55:K 55 Pbt:=fnK (E:=E0) (tm:=Mbw) Tryz.func53 (by kernel_rfl)
theorem o56:K 56 Pbs:=fnK (E:=E0) (tm:=Mbv) Tryz.func112 (by kernel_rfl)
theorem o57:K 57 Pbr:=fnK (E:=E0) (tm:=Mbu) Tryz.func36 (by kernel_rfl)
theorem o58:K 58 Pbq:=fnK (E:=E0) (tm:=Mbt) Tryz.func70 (by kernel_rfl)
theorem o59:K 59 Kbe:=fnK (E:=E0) (tm:=Cbp) Tryz.func121 (by kernel_rfl)
theorem o60:K 60 Kbd:=fnK (E:=E0) (tm:=Gbk) Tryz.func147 (by kernel_rfl)
theorem o61:K 61 Kbc:=fnK (E:=E0) (tm:=Gbj) Tryz.func158 (by kernel_rfl)
theorem o62:K 62 Kbb:=fnK (E:=E0) (tm:=Gbi) Tryz.func159 (by kernel_rfl)
theorem o63:K 63 Kba:=fnK (E:=E0) (tm:=Gbh) Tryz.func168 (by kernel_rfl)
theorem o64:K 64 Jb9:=fnK (E:=E0) (tm:=Cbo) Tryz.func148 (by kernel_rfl)
theorem o66:K 66 Jb7:=fnK (E:=E0) (tm:=Cbn) Tryz.func149 (by kernel_rfl)
theorem o67:K 67 Jb6:=fnK (E:=E0) (tm:=Cbm) Tryz.func161 (by kernel_rfl)
theorem o68:K 68 Jb5:=fnK (E:=E0) (tm:=Cbl) Tryz.func169 (by kernel_rfl)
theorem o70:K 70 Jb3:=fnK (E:=E0) (tm:=Cbk) Tryz.func74 (by kernel_rfl)
theorem o71:K 71 Jb2:=fnK (E:=E0) (tm:=Cbj) Tryz.func122 (by kernel_rfl)
theorem o72:K 72 Jb1:=fnK (E:=E0) (tm:=Cbi) Tryz.func75 (by kernel_rfl)
theorem o73:K 73 Jb0:=fnK (E:=E0) (tm:=Cbh) Tryz.func72 (by kernel_rfl)
theorem o74:K 74 Jbz:=fnK (E:=E0) (tm:=Cbg) Tryz.func76 (by kernel_rfl)
theorem o75:K 75 Jby:=fnK (E:=E0) (tm:=Xao) Tryz.func123 (by kernel_rfl)
theorem o76:K 76 Jbx:=fnK (E:=E0) (tm:=Xan) Tryz.func150 (by kernel_rfl)
theorem o77:K 77 Jbw:=fnK (E:=E0) (tm:=Cbf) Tryz.func37 (by kernel_rfl)
theorem o78:K 78 Jbv:=fnK (E:=E0) (tm:=Cbe) Tryz.func92 (by kernel_rfl)
theorem o79:K 79 Jbu:=fnK (E:=E0) (tm:=Cbd) Tryz.func137 (by kernel_rfl)
theorem o80:K 80 Jbt:=fnK (E:=E0) (tm:=Cbc) Tryz.func136 (by kernel_rfl)
theorem o81:K 81 Jbs:=fnK (E:=E0) (tm:=Cbb) Tryz.func26 (by kernel_rfl)
theorem o82:K 82 Jbr:=fnK (E:=E0) (tm:=Cba) Tryz.func97 (by kernel_rfl)
theorem o83:K 83 Jbq:=fnK (E:=E0) (tm:=Bb9) Tryz.func29 (by kernel_rfl)
theorem o84:K 84 Jbp:=fnK (E:=E0) (tm:=Bb8) Tryz.func77 (by kernel_rfl)
theorem o85:K 85 Jbo:=fnK (E:=E0) (tm:=Bb7) Tryz.func124 (by kernel_rfl)
theorem o86:K 86 Jbn:=fnK (E:=E0) (tm:=Bb6) Tryz.func38 (by kernel_rfl)
theorem o87:K 87 Jbm:=fnK (E:=E0) (tm:=Bb5) Tryz.func79 (by kernel_rfl)
theorem o88:K 88 Jbl:=fnK (E:=⟨lU tiL,sigs,0,0,false,false,[],[(6,[(27,0,2,99),(108,0,0,0)],[0,3,18,24,27,102,105,108,7],2,[1,4])]⟩) (tm:=Gbg) Tryz.func39 (by kernel_rfl)
theorem o89:K 89 Jbk:=fnK (E:=E0) (tm:=Gbf) Tryz.func80 (by kernel_rfl)
theorem o90:K 90 Jbj:=fnK (E:=E0) (tm:=Gbe) Tryz.func81 (by kernel_rfl)
theorem o91:K 91 Jbi:=fnK (E:=E0) (tm:=Gbd) Tryz.func82 (by kernel_rfl)
theorem o92:K 92 Jbh:=fnK (E:=E0) (tm:=Bb4) Tryz.func83 (by kernel_rfl)
theorem o93:K 93 Jbg:=fnK (E:=E0) (tm:=Ib2) Tryz.func125 (by kernel_rfl)
theorem o94:K 94 Jbf:=fnK (E:=E0) (tm:=Bb3) Tryz.func40 (by kernel_rfl)
theorem o95:K 95 Jbe:=fnK (E:=E0) (tm:=Bb2) Tryz.func41 (by kernel_rfl)
theorem o96:K 96 Jbd:=fnK (E:=E0) (tm:=Bb1) Tryz.func94 (by kernel_rfl)
theorem o97:K 97 Jbc:=fnK (E:=E0) (tm:=Ib1) Tryz.func42 (by kernel_rfl)
theorem o98:K 98 Jbb:=fnK (E:=E0) (tm:=Bb0) Tryz.func101 (by kernel_rfl)
theorem o99:K 99 Jba:=fnK (E:=⟨lU tiL,sigs,0,0,false,false,[],[(7,[(18,0,0,0),(1,0,3,0),(1,1,0,0),(1,2,0,0),(25,1,2,99)],[177,0,6,9,12,15,18,42,45,1,4,25],193,[1,624]),(4,[(45,0,0,0),(1,0,3,0),(1,1,0,0),(1,2,0,0),(25,1,2,99)],[177,0,6,9,12,42,45,1,4,25],202,[2,3])]⟩) (tm:=Bbz) Tryz.func87 (by kernel_rfl)
theorem Obz:K 100 Yaz:=fnK (E:=E0) (tm:=Hao) Tryz.func128 (by kernel_rfl)
theorem Oby:K 101 Yay:=fnK (E:=E0) (tm:=Mas) Tryz.func86 (by kernel_rfl)
theorem Obx:K 102 Yax:=fnK (E:=⟨lU tiL,sigs,0,0,false,false,[],[(6,[(81,0,0,0),(19,0,0,0),(19,1,2,99)],[6,9,15,24,27,30,54,57,60,75,78,81,1,4,7,19],13,[63]),(3,[(60,0,0,0),(19,0,0,0),(19,1,2,99)],[6,9,15,24,27,54,57,60,1,4,7,19],18,[0])]⟩) (tm:=Mar) Tryz.func130 (by kernel_rfl)
theorem Obw:K 103 Yaw:=fnK (E:=E0) (tm:=Han) Tryz.func151 (by kernel_rfl)
theorem Obv:K 104 Yav:=fnK (E:=E0) (tm:=Ham) Tryz.func162 (by kernel_rfl)
theorem Obu:K 105 Yau:=fnK (E:=E0) (tm:=Maq) Tryz.func173 (by kernel_rfl)
theorem Obt:K 106 Yat:=fnK (E:=E0) (tm:=Mao) Tryz.func163 (by kernel_rfl)
theorem Obs:K 107 Yas:=fnK (E:=E0) (tm:=Man) Tryz.func139 (by kernel_rfl)
theorem Obr:K 108 Yar:=fnK (E:=E0) (tm:=Mam) Tryz.func131 (by kernel_rfl)
theorem Obq:K 109 Pae:=fnK (E:=⟨lU tiL,sigs,0,0,false,false,[],[(6,[(63,0,0,0),(16,1,2,99)],[6,9,12,36,39,42,57,60,63,1,4,16],177,[546]),(3,[(42,0,0,0),(16,1,2,99)],[6,9,36,39,42,1,4,16],180,[0])]⟩) (tm:=Hal) Tryz.func152 (by kernel_rfl)
theorem Obp:K 110 Yaq:=fnK (E:=E0) (tm:=Mal) Tryz.func153 (by kernel_rfl)
theorem o111:K 111 Yap:=fnK (E:=E0) (tm:=Mak) Tryz.func84 (by kernel_rfl)
theorem Obo:K 112 Yao:=fnK (E:=E0) (tm:=Maj) Tryz.func126 (by kernel_rfl)
theorem Obn:K 113 Yan:=fnK (E:=⟨lU tiL,sigs,0,0,false,false,[],[(8,[(12,0,0,0),(66,0,0,0)],[12,15,39,42,45,60,63,66,1],0,[]),(5,[(12,0,0,0),(45,0,0,0)],[12,39,42,45,1],3,[])]⟩) (tm:=Mai) Tryz.func21 (by kernel_rfl)
theorem Obm:K 114 Yam:=fnK (E:=⟨lU tiL,sigs,0,0,false,false,[],[(7,[(84,0,0,0)],[3,12,60,63,66,78,81,84,1],0,[]),(4,[(66,0,0,0)],[3,60,63,66,1],1,[])]⟩) (tm:=Mah) Tryz.func93 (by kernel_rfl)
theorem Obl:K 115 Yal:=fnK (E:=E0) (tm:=Mag) Tryz.func32 (by kernel_rfl)
theorem Obk:K 116 Yak:=fnK (E:=E0) (tm:=Maf) Tryz.func104 (by kernel_rfl)
theorem Obi:K 117 Yaj:=fnK (E:=E0) (tm:=Mae) Tryz.func106 (by kernel_rfl)
theorem Obh:K 118 Yai:=fnK (E:=E0) (tm:=Mad) Tryz.func43 (by kernel_rfl)
theorem Obg:K 119 Yah:=fnK (E:=E0) (tm:=Mac) Tryz.func44 (by kernel_rfl)
theorem Obf:K 120 Yag:=fnK (E:=E0) (tm:=Mab) Tryz.func22 (by kernel_rfl)
theorem Obe:K 121 Yaf:=fnK (E:=E0) (tm:=Maa) Tryz.func96 (by kernel_rfl)
theorem Obd:K 122 Yae:=fnK (E:=E0) (tm:=La9) Tryz.func98 (by kernel_rfl)
theorem Obc:K 123 Yad:=fnK (E:=E0) (tm:=La8) Tryz.func138 (by kernel_rfl)
theorem Obb:K 124 Yac:=fnK (E:=E0) (tm:=La7) Tryz.func113 (by kernel_rfl)
theorem Nb9:K 126 Yab:=fnK (E:=E0) (tm:=La6) Tryz.func45 (by kernel_rfl)
theorem Nb8:K 127 Yaa:=fnK (E:=E0) (tm:=La5) Tryz.func46 (by kernel_rfl)
theorem Nb7:K 128 Xa9:=fnK (E:=E0) (tm:=La4) Tryz.func24 (by kernel_rfl)
theorem Nb6:K 129 Xa8:=fnK (E:=E0) (tm:=La3) Tryz.func47 (by kernel_rfl)
theorem Nb5:K 130 Xa7:=fnK (E:=E0) (tm:=La2) Tryz.func27 (by kernel_rfl)
theorem Nb4:K 131 Xa6:=fnK (E:=E0) (tm:=La1) Tryz.func23 (by kernel_rfl)
theorem Nb3:K 132 Xa5:=fnK (E:=E0) (tm:=La0) Tryz.func99 (by kernel_rfl)
theorem Abm:∀ key s,(key,s)∈sigs → Ja7 Tryz.prog (vH Tryz.prog) T (lU tiL) sigs key s:=Qai (fcX o0 <| fcX o1 <| fcX o2 <| fcX o3 <| fcX o4 <| fcX o5 <| fcX o6 <| fcX o7 <| fcX o8 <| fcX o9 <| fcX o10 <| fcX o11 <| fcX o12 <| fcX o13 <| fcX o14 <| fcX o15 <| fcX o16 <| fcX o17 <| fcX o18 <| fcX o19 <| fcX o20 <| fcX o21 <| fcX o22 <| fcX o23 <| fcX o24 <| fcX o25 <| fcX o26 <| fcX o27 <| fcX o28 <| fcX o29 <| fc o30 <| fcX o33 <| fcX o38 <| fcX o39 <| fcX o40 <| fcX o41 <| fcX o42 <| fcX o43 <| fcX o44 <| fcX o45 <| fcX o46 <| fcX o47 <| fcX o48 <| fcX o49 <| fcX o50 <| fcX o51 <| fcX o52 <| fcX o53 <| fcX o54 <| fcX o55 <| fcX o56 <| fcX o57 <| fcX o58 <| fcX o59 <| fcX o60 <| fcX o61 <| fcX o62 <| fcX o63 <| fcX o64 <| fcX o65 <| fcX o66 <| fcX o67 <| fcX o68 <| fcX o69 <| fcX o70 <| fcX o71 <| fcX o72 <| fcX o73 <| fcX o74 <| fcX o75 <| fcX o76 <| fcX o77 <| fcX o78 <| fcX o79 <| fcX o80 <| fcX o81 <| fcX o82 <| fcX o83 <| fcX o84 <| fcX o85 <| fcX o86 <| fcX o87 <| fcX o88 <| fcX o89 <| fcX o90 <| fcX o91 <| fcX o92 <| fcX o93 <| fcX o94 <| fcX o95 <| fcX o96 <| fcX o97 <| fcX o98 <| fcX o99 <| fcX Obz <| fcX Oby <| fcX Obx <| fcX Obw <| fcX Obv <| fcX Obu <| fcX Obt <| fcX Obs <| fcX Obr <| fcX Obq <| fcX Obp <| fcX o111 <| fcX Obo <| fcX Obn <| fcX Obm <| fcX Obl <| fcX Obk <| fcX Obi <| fcX Obh <| fcX Obg <| fcX Obf <| fcX Obe <| fcX Obd <| fcX Obc <| fcX Obb <| fcX Oba <| fcX Nb9 <| fcX Nb8 <| fcX Nb7 <| fcX Nb6 <| fcX Nb5 <| fcX Nb4 <| fcX Nb3 <| fc0)
theorem contract:∀ n,sU Tryz.prog (vH Tryz.prog) T n 0 sg0:=fun n=>Fai Ca9 Oaq (by kernel_rfl) Abm n 0 sg0 (by simp[sigs])
end FnFrames
end Go.Proofs.YtdpfilpckndhcaaGreatDoor
