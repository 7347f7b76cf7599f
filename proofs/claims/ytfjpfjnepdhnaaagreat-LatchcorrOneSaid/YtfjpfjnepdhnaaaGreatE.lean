/- The tables of the program, and that they are true. -/
import Derived.Test.YtfjpfjnepdhnaaaGreatW8
import Derived.Test.YtfjpfjnepdhnaaaGreatProg
namespace Go.Proofs.YtfjpfjnepdhnaaaGreat
open Go Go.Proofs.YtfjpfjnepdhnaaaGreat.R
set_option maxRecDepth 100000
abbrev iT:Ty:=.int .i64
abbrev qT:Ty:=.pair iT iT
abbrev pT:Ty:=.list qT
abbrev lT:Ty:=.list iT
abbrev mT:Ty:=.list lT
abbrev bT:Ty:=.list .bool
abbrev cT:Ty:=.pair iT (.pair pT (.pair pT (.pair lT lT)))
abbrev sI:Sh:=.d iT
abbrev sL:Sh:=.d lT
abbrev sM:Sh:=.d mT
abbrev sP:Sh:=.d pT
abbrev sB:Sh:=.d .bool
abbrev oI:Sh:=.own iT
abbrev oQ:Sh:=.own qT
abbrev oL:Sh:=.own lT
abbrev oB:Sh:=.own .bool
abbrev oC:Sh:=.agg sI (.agg oQ (.agg oQ (.agg oI oI)))
abbrev sC:Sh:=.agg sI (.agg sP (.agg sP (.agg sL sL)))
abbrev dI(x:Int):AV:=.d iT x
abbrev dP(x:Lp):AV:=.d pT x
abbrev dL(x:Li):AV:=.d lT x
noncomputable def E : Env:=⟨[(2,iT),(3,iT),(4,.bool),(5,(.int .u8)),(6,(.int .u8)),(7,(.pair iT (.pair iT (.pair .bool (.int .u8))))),(8,(.pair iT (.pair iT (.pair .bool (.int .u8))))),(12,(.int .u64)),(21,(.int .i32)),(22,pT),(23,pT),(24,lT),(25,cT),(26,cT),(31,mT),(32,iT),(35,qT),(36,qT),(40,(.pair pT iT)),(41,(.pair pT iT)),(42,(.pair iT (.pair iT (.pair lT (.pair mT (.pair lT (.pair pT iT))))))),(43,(.pair iT (.pair iT (.pair lT (.pair mT (.pair lT (.pair pT iT))))))),(44,(.pair cT (.pair iT (.pair iT (.pair lT (.pair mT (.pair lT (.pair pT iT)))))))),(45,(.pair cT (.pair iT (.pair iT (.pair lT (.pair mT (.pair lT (.pair pT iT)))))))),(49,qT),(50,qT),(54,bT),(97,(.int .u64)),(102,(.pair iT (.pair pT iT))),(103,(.pair iT (.pair pT iT))),(107,(.list cT)),(119,(.pair iT (.pair mT mT))),(120,(.pair iT (.pair mT mT))),(123,(.pair .bool (.pair bT (.pair lT (.pair mT iT))))),(124,(.pair .bool (.pair bT (.pair lT (.pair mT iT))))),(127,(.int .u32)),(130,(.int .u64)),(144,(.pair iT (.pair lT lT))),(145,(.pair iT (.pair lT lT))),(148,(.pair iT (.pair lT (.pair lT (.pair mT (.pair (.pair iT (.pair lT lT)) (.pair .bool (.pair bT (.pair lT (.pair mT iT)))))))))),(149,(.pair iT (.pair lT (.pair lT (.pair mT (.pair (.pair iT (.pair lT lT)) (.pair .bool (.pair bT (.pair lT (.pair mT iT)))))))))),(159,(.list (.int .u8))),(177,pT),(180,qT),(181,qT),(189,(.pair iT (.pair mT (.pair (.pair iT (.pair lT lT)) (.pair .bool (.pair bT (.pair lT (.pair mT iT)))))))),(190,(.pair iT (.pair mT (.pair (.pair iT (.pair lT lT)) (.pair .bool (.pair bT (.pair lT (.pair mT iT)))))))),(193,iT),(207,(.int .u64)),(231,(.int .u8)),(232,(.int .u8)),(235,(.int .i32)),(236,(.int .i32))],
  [(7,(4,[(0,2),(1,3),(2,4),(3,6)])),(8,(4,[(0,2),(1,3),(2,4),(3,6)])),(25,(5,[(0,3),(1,22),(2,23),(3,24),(4,24)])),(26,(5,[(0,3),(1,22),(2,23),(3,24),(4,24)])),(35,(2,[(0,3),(1,3)])),(36,(2,[(0,3),(1,3)])),(40,(2,[(0,23),(1,3)])),(41,(2,[(0,23),(1,3)])),(42,(7,[(0,3),(1,3),(2,24),(3,31),(4,24),(5,41)])),(43,(7,[(0,3),(1,3),(2,24),(3,31),(4,24),(5,41)])),(44,(12,[(0,26),(5,43)])),(45,(12,[(0,26),(5,43)])),(49,(2,[(0,3),(1,3)])),(50,(2,[(0,3),(1,3)])),(102,(3,[(0,3),(1,41)])),(103,(3,[(0,3),(1,41)])),(119,(3,[(0,3),(1,31),(2,31)])),(120,(3,[(0,3),(1,31),(2,31)])),(123,(5,[(0,4),(1,54),(2,24),(3,31),(4,3)])),(124,(5,[(0,4),(1,54),(2,24),(3,31),(4,3)])),(144,(3,[(0,3),(1,24),(2,24)])),(145,(3,[(0,3),(1,24),(2,24)])),(148,(12,[(0,3),(1,24),(2,24),(3,31),(4,145),(7,124)])),(149,(12,[(0,3),(1,24),(2,24),(3,31),(4,145),(7,124)])),(180,(2,[(0,3),(1,3)])),(181,(2,[(0,3),(1,3)])),(189,(10,[(0,3),(1,31),(2,145),(5,124)])),(190,(10,[(0,3),(1,31),(2,145),(5,124)]))],
  [(95,(4,iT)),(133,(2,iT)),(206,(4001,.bool))],
  [(1,()),(15,()),(16,()),(17,()),(27,()),(28,()),(29,()),(30,()),(34,()),(38,()),(39,()),(47,()),(48,()),(51,()),(52,()),(53,()),(55,()),(57,()),(59,()),(61,()),(62,()),(63,()),(64,()),(65,()),(66,()),(68,()),(69,()),(71,()),(73,()),(74,()),(76,()),(77,()),(78,()),(79,()),(80,()),(81,()),(82,()),(83,()),(84,()),(85,()),(86,()),(88,()),(89,()),(90,()),(91,()),(93,()),(94,()),(96,()),(98,()),(99,()),(100,()),(101,()),(104,()),(105,()),(106,()),(108,()),(110,()),(111,()),(112,()),(116,()),(117,()),(118,()),(122,()),(126,()),(129,()),(132,()),(135,()),(136,()),(137,()),(138,()),(139,()),(141,()),(142,()),(143,()),(146,()),(147,()),(151,()),(152,()),(153,()),(154,()),(155,()),(156,()),(157,()),(158,()),(160,()),(162,()),(163,()),(165,()),(167,()),(169,()),(170,()),(171,()),(172,()),(174,()),(175,()),(176,()),(179,()),(182,()),(183,()),(184,()),(186,()),(187,()),(188,()),(191,()),(192,()),(195,()),(196,()),(197,()),(198,()),(199,()),(200,()),(202,()),(203,()),(204,()),(205,()),(208,()),(209,()),(210,()),(211,()),(212,()),(213,()),(214,()),(215,()),(216,()),(217,()),(218,()),(219,()),(220,()),(221,()),(222,()),(223,()),(224,()),(225,()),(233,()),(234,())],
  [(14,([.ro,.ro,.ro],[oC])),(32,([.ro],[sI])),(48,([.ro],[sI,sI])),(78,([.ro,.ro],[(.d (.int .u32)),(.d (.int .u32))])),(79,([.ro,.ro],[(.d (.int .u64)),(.d (.int .u64))])),(69,([.ro,.ro],[(.d (.int .u64)),(.d (.int .u64))])),(52,([.ro,.ro],[oI])),(36,([.ro],[oQ])),(38,([.ro],[oI])),(53,([.ro,.ro],[sC,sL,sI])),(49,([.ro,.ro,.ro],[sC])),(80,([.ro,.ro,.io oB],[])),(81,([.ro,.ro],[sI])),(97,([.ro,.ro],[sB])),(86,([.ro,.ro],[oI,sB,sI])),(82,([.mv oL,.ro,.ro],[oL])),(76,([.ro,.ro],[(.agg sI (.agg oL oL)),sI])),(87,([.ro,.ro],[sI])),(100,([.ro,.ro],[sB])),(88,([.ro],[sI])),(83,([.ro,.ro,.ro,.ro],[sI])),(89,([.ro],[oL])),(101,([.ro],[(.own (.int .u8))])),(111,([.ro,.ro],[(.d (.int .u8)),sI])),(102,([.ro,.ro],[sI,sI])),(90,([.ro,.ro],[(.agg sI (.agg oI oI)),sI,sI])),(112,([.ro,.ro,.ro],[sI])),(113,([.ro,.ro,.ro],[sB])),(94,([.ro,.ro],[sI])),(103,([.ro,.ro,.ro],[oI,sI])),(104,([.io (.agg sI (.agg sL (.agg oI (.agg oL (.agg (.agg sI (.agg oI oI)) (.agg sB (.agg oB (.agg oI (.agg oL sI))))))))),.ro],[sI])),(137,([.ro,.ro],[(.d (.int .u8)),sI,sI])),(118,([.ro,.ro],[sI])),(150,([.ro],[sB])),(73,([.ro,.ro],[sI])),(149,([.ro],[sB])),(132,([.ro,.ro],[sB])),(154,([.ro],[sB])),(151,([.ro,.ro],[sI,sB])),(138,([.ro,.ro],[sI,sI])),(140,([.ro,.ro],[sI])),(139,([.ro,.ro],[sI])),(114,([.ro,.ro],[oQ,sI])),(115,([.ro],[sI])),(116,([.ro,.ro],[(.agg sI (.agg oI oI)),sI])),(119,([.ro,.ro],[sB])),(142,([.ro,.ro],[(.agg sI (.agg oI oI)),sI])),(117,([.ro,.ro],[(.agg sI (.agg oI oI)),sI])),(105,([.ro,.ro],[(.agg sI (.agg oI oI)),sI])),(91,([.io (.agg sI (.agg sL (.agg oI (.agg oL (.agg (.agg sI (.agg oI oI)) (.agg sB (.agg oB (.agg oI (.agg oL sI)))))))))],[sB,sI])),(106,([.ro,.ro],[(.d (.int .u8)),sI])),(120,([.ro],[sI])),(121,([.mv oI],[sI,oI])),(107,([.ro,.ro],[sI,oI,sI])),(92,([.io (.agg sI (.agg sL (.agg oI (.agg oL (.agg (.agg sI (.agg oI oI)) (.agg sB (.agg oB (.agg oI (.agg oL sI)))))))))],[sI])),(93,([.io (.agg sI (.agg sL (.agg oI (.agg oL (.agg (.agg sI (.agg oI oI)) (.agg sB (.agg oB (.agg oI (.agg oL sI))))))))),.ro],[sI])),(84,([.ro,.ro,.ro,.ro],[(.agg sB (.agg oB (.agg oI (.agg oL sI)))),sI])),(122,([.ro,.ro],[sI])),(143,([.io (.agg sI (.agg oL (.agg (.agg sI (.agg oI oI)) (.agg sB (.agg oB (.agg oI (.agg oL sI))))))),.ro],[])),(123,([.io (.agg sI (.agg oL (.agg (.agg sI (.agg oI oI)) (.agg sB (.agg oB (.agg oI (.agg oL sI)))))))],[sB,sI])),(124,([.io (.agg sI (.agg oL (.agg (.agg sI (.agg oI oI)) (.agg sB (.agg oB (.agg oI (.agg oL sI))))))),.ro],[sB])),(125,([.io (.agg sI (.agg oL (.agg (.agg sI (.agg oI oI)) (.agg sB (.agg oB (.agg oI (.agg oL sI)))))))],[])),(108,([.ro,.ro,.ro],[(.agg sB (.agg oB (.agg oI (.agg oL sI)))),sI])),(96,([.ro,.ro,.ro],[sB,sI])),(85,([.ro,.ro,.ro],[oI,sI])),(77,([.ro,.ro,.ro,.ro],[(.agg sB (.agg oB (.agg oI (.agg oL sI)))),sI])),(68,([.ro,.ro,.ro,.ro],[sB,sI])),(51,([.ro,.ro,.ro,.ro],[sB,sI])),(30,([.ro,.ro],[sM,sC,sI])),(11,([.ro,.ro],[sM,sI])),(15,([.ro,.ro],[sB])),(17,([.ro,.ro],[sB])),(7,([],[sB])),(27,([.ro],[sB])),(28,([.ro],[sI])),(29,([.ro,.ro],[sB])),(10,([.ro],[sI])),(8,([.ro],[sB])),(9,([.ro],[sB])),(31,([.ro],[sL,sC,sI])),(12,([.ro],[sL,sI])),(3,([.ro,.ro],[sB]))],
  [(14,Tryz.f14),(56,Tryz.f56),(59,Tryz.f59),(60,Tryz.f60),(32,Tryz.f32),(48,Tryz.f48),(78,Tryz.f78),(79,Tryz.f79),(69,Tryz.f69),(36,Tryz.f36),(38,Tryz.f38),(49,Tryz.f49),(80,Tryz.f80),(81,Tryz.f81),(97,Tryz.f97),(98,Tryz.f98),(99,Tryz.f99),(86,Tryz.f86),(82,Tryz.f82),(76,Tryz.f76),(87,Tryz.f87),(100,Tryz.f100),(88,Tryz.f88),(83,Tryz.f83),(89,Tryz.f89),(101,Tryz.f101),(111,Tryz.f111),(102,Tryz.f102),(90,Tryz.f90),(112,Tryz.f112),(113,Tryz.f113),(94,Tryz.f94),(95,Tryz.f95),(103,Tryz.f103),(104,Tryz.f104),(137,Tryz.f137),(118,Tryz.f118),(150,Tryz.f150),(73,Tryz.f73),(149,Tryz.f149),(132,Tryz.f132),(154,Tryz.f154),(151,Tryz.f151),(138,Tryz.f138),(140,Tryz.f140),(139,Tryz.f139),(141,Tryz.f141),(114,Tryz.f114),(115,Tryz.f115),(116,Tryz.f116),(119,Tryz.f119),(142,Tryz.f142),(117,Tryz.f117),(105,Tryz.f105),(91,Tryz.f91),(106,Tryz.f106),(120,Tryz.f120),(121,Tryz.f121),(107,Tryz.f107),(92,Tryz.f92),(93,Tryz.f93),(84,Tryz.f84),(122,Tryz.f122),(143,Tryz.f143),(123,Tryz.f123),(124,Tryz.f124),(125,Tryz.f125),(108,Tryz.f108),(96,Tryz.f96),(85,Tryz.f85),(77,Tryz.f77),(68,Tryz.f68),(51,Tryz.f51),(11,Tryz.f11),(15,Tryz.f15),(17,Tryz.f17),(7,Tryz.f7),(27,Tryz.f27),(28,Tryz.f28),(29,Tryz.f29),(10,Tryz.f10),(8,Tryz.f8),(9,Tryz.f9),(12,Tryz.f12),(3,Tryz.f3)],
  [(36,qT),(38,iT),(89,lT)],
  [(32,[(11,[3,52,53,54])]),(49,[(3,[3,6,7,19,20,21]),(6,[3,6,7,9,19,20,21,26,27,28])]),(80,[(3,[2,3,12,13,14]),(9,[2,3,8,9])]),(99,[(4,[0,3]),(9,[0,3,4,5])]),(86,[(4,[0,1,16,17,18]),(13,[4,34,35])]),(82,[(3,[0,1,7,13,14,15])]),(76,[(5,[1,2,4,6,29,30,31]),(15,[2,4,6,10,11,12,13]),(23,[4,10,11,12,14,85,86,87])]),(87,[(4,[0,1,13,14,15])]),(88,[(5,[1,3,21,22,23]),(12,[1,45,46,47])]),(83,[(6,[0,2,28,29,30])]),(101,[(3,[1,3,13,14]),(8,[3,22,23,24])]),(111,[(3,[0,6,7,10,11,12])]),(102,[(3,[0,6,11,12,13])]),(90,[(7,[1,2,4,25,26,27]),(15,[1,4,11,12])]),(112,[(8,[0,23,24,25])]),(94,[(2,[0,1,7,8])]),(103,[(8,[0,1,9,31,32,33]),(17,[14,52,53,54])]),(73,[(2,[0,1,7,8])]),(151,[(3,[0,1,6,7,8])]),(114,[(8,[2,9,27,28,29])]),(91,[(3,[0,4,5,15,16,17])]),(120,[(5,[0,3,9,10,11])]),(121,[(5,[0,4,5,6]),(7,[0,4,5,6,7,26])]),(107,[(9,[0,3,9,29,30,31]),(14,[3,9,12])]),(92,[(3,[0,3,14,15,16])]),(93,[(8,[0,50,51,52])]),(84,[(3,[0,3,8,10,11]),(6,[3,8,10])]),(122,[(4,[0,10,11,12])]),(123,[(3,[0,4,15,16,17])]),(125,[(2,[0,21,22,23])]),(108,[(9,[0,2,6,9,10,11]),(12,[2,6,9,10])]),(96,[(3,[0,1,8,13,14,15])]),(85,[(3,[0,1,8,17,18,19])]),(68,[(6,[3,10,12,29,30,31])]),(15,[(4,[0,1,5])]),(17,[(4,[0,1,5])]),(29,[(2,[0,1,5])]),(10,[(9,[1,3,4]),(14,[1,5])]),(3,[(11,[2,5,6,8,9]),(14,[2,5,6,8,9,10]),(27,[2,5,8,12,14]),(32,[5,8,12,15])])],
  [(108,[(12,[10])])],
  [(3,[(16,18),(19,10),(20,39),(29,12)]),(15,[(6,8)]),(17,[(6,8)]),(76,[(26,14)]),(80,[(13,1000)]),(84,[(6,14)]),(86,[(15,14)]),(90,[(13,10)]),(91,[(9,13)]),(92,[(12,13),(16,13)]),(93,[(2,16),(6,10)]),(104,[(3,1000)]),(105,[(4,10),(6,8),(9,7)]),(108,[(12,14)]),(116,[(9,12)]),(121,[(10,12),(15,12)]),(123,[(10,13)]),(124,[(4,13)]),(125,[(0,10)]),(142,[(6,7),(7,17)])],
  [],
  [(56,.calc Bg),(59,.calc (GR 57)),(60,.calc (yl 57 58)),(98,.inplace iT gQ none),(99,.take iT Lib.compact),(95,.cut iT),(141,.inplace qT ji (some 139))],
  [(52,GE),(53,zA),(30,AB),(31,conHK)],
  []⟩
def Qv : Code → Array Oper
  | .region _ ops _=>ops
  | _=>#[]
noncomputable def SE : Code:=(Tryz.f14.body).getD .skip
noncomputable def Sr : Code:=(Tryz.f56.body).getD .skip
noncomputable def Sq : Code:=(Tryz.f59.body).getD .skip
noncomputable def Sp : Code:=(Tryz.f60.body).getD .skip
noncomputable def Ot : Code:=(Tryz.f32.body).getD .skip
noncomputable def Su : Code:=(Tryz.f48.body).getD .skip
noncomputable def Sk : Code:=(Tryz.f78.body).getD .skip
noncomputable def Sj : Code:=(Tryz.f79.body).getD .skip
noncomputable def Sm : Code:=(Tryz.f69.body).getD .skip
noncomputable def Sz : Code:=(Tryz.f36.body).getD .skip
noncomputable def Sx : Code:=(Tryz.f38.body).getD .skip
noncomputable def LA : Code:=(Tryz.f49.body).getD .skip
noncomputable def PE : Code:=(Tryz.f80.body).getD .skip
noncomputable def Si : Code:=(Tryz.f81.body).getD .skip
noncomputable def Se : Code:=(Tryz.f97.body).getD .skip
noncomputable def Sd : Code:=(Tryz.f98.body).getD .skip
noncomputable def Sc : Code:=(Tryz.f99.body).getD .skip
noncomputable def Oo : Code:=(Tryz.f86.body).getD .skip
noncomputable def QM : Code:=(Tryz.f82.body).getD .skip
noncomputable def Lz : Code:=(Tryz.f76.body).getD .skip
noncomputable def QJ : Code:=(Tryz.f87.body).getD .skip
noncomputable def RO : Code:=(Tryz.f100.body).getD .skip
noncomputable def On : Code:=(Tryz.f88.body).getD .skip
noncomputable def QL : Code:=(Tryz.f83.body).getD .skip
noncomputable def Sg : Code:=(Tryz.f89.body).getD .skip
noncomputable def FZ : Code:=(Tryz.f101.body).getD .skip
noncomputable def Nm : Code:=(Tryz.f111.body).getD .skip
noncomputable def Nn : Code:=(Tryz.f102.body).getD .skip
noncomputable def PC : Code:=(Tryz.f90.body).getD .skip
noncomputable def Nl : Code:=(Tryz.f112.body).getD .skip
noncomputable def RK : Code:=(Tryz.f113.body).getD .skip
noncomputable def QF : Code:=(Tryz.f94.body).getD .skip
noncomputable def Sf : Code:=(Tryz.f95.body).getD .skip
noncomputable def FY : Code:=(Tryz.f103.body).getD .skip
noncomputable def RN : Code:=(Tryz.f104.body).getD .skip
noncomputable def RC : Code:=(Tryz.f137.body).getD .skip
noncomputable def RG : Code:=(Tryz.f118.body).getD .skip
noncomputable def Ru : Code:=(Tryz.f150.body).getD .skip
noncomputable def QO : Code:=(Tryz.f73.body).getD .skip
noncomputable def Rv : Code:=(Tryz.f149.body).getD .skip
noncomputable def RD : Code:=(Tryz.f132.body).getD .skip
noncomputable def Rt : Code:=(Tryz.f154.body).getD .skip
noncomputable def Ng : Code:=(Tryz.f151.body).getD .skip
noncomputable def RB : Code:=(Tryz.f138.body).getD .skip
noncomputable def Rz : Code:=(Tryz.f140.body).getD .skip
noncomputable def RA : Code:=(Tryz.f139.body).getD .skip
noncomputable def Ry : Code:=(Tryz.f141.body).getD .skip
noncomputable def Nk : Code:=(Tryz.f114.body).getD .skip
noncomputable def RJ : Code:=(Tryz.f115.body).getD .skip
noncomputable def RI : Code:=(Tryz.f116.body).getD .skip
noncomputable def RF : Code:=(Tryz.f119.body).getD .skip
noncomputable def Rx : Code:=(Tryz.f142.body).getD .skip
noncomputable def RH : Code:=(Tryz.f117.body).getD .skip
noncomputable def RM : Code:=(Tryz.f105.body).getD .skip
noncomputable def QI : Code:=(Tryz.f91.body).getD .skip
noncomputable def RL : Code:=(Tryz.f106.body).getD .skip
noncomputable def Nj : Code:=(Tryz.f120.body).getD .skip
noncomputable def FW : Code:=(Tryz.f121.body).getD .skip
noncomputable def FX : Code:=(Tryz.f107.body).getD .skip
noncomputable def QH : Code:=(Tryz.f92.body).getD .skip
noncomputable def QG : Code:=(Tryz.f93.body).getD .skip
noncomputable def PD : Code:=(Tryz.f84.body).getD .skip
noncomputable def Ni : Code:=(Tryz.f122.body).getD .skip
noncomputable def Rw : Code:=(Tryz.f143.body).getD .skip
noncomputable def Nh : Code:=(Tryz.f123.body).getD .skip
noncomputable def RE : Code:=(Tryz.f124.body).getD .skip
noncomputable def PF : Code:=(Tryz.f125.body).getD .skip
noncomputable def Ji : Code:=(Tryz.f108.body).getD .skip
noncomputable def QE : Code:=(Tryz.f96.body).getD .skip
noncomputable def QK : Code:=(Tryz.f85.body).getD .skip
noncomputable def Sl : Code:=(Tryz.f77.body).getD .skip
noncomputable def QP : Code:=(Tryz.f68.body).getD .skip
noncomputable def Ss : Code:=(Tryz.f51.body).getD .skip
noncomputable def SG : Code:=(Tryz.f11.body).getD .skip
noncomputable def QV : Code:=(Tryz.f15.body).getD .skip
noncomputable def QU : Code:=(Tryz.f17.body).getD .skip
noncomputable def b7 : Code:=(Tryz.f7.body).getD .skip
noncomputable def SB : Code:=(Tryz.f27.body).getD .skip
noncomputable def SA : Code:=(Tryz.f28.body).getD .skip
noncomputable def QS : Code:=(Tryz.f29.body).getD .skip
noncomputable def Ou : Code:=(Tryz.f10.body).getD .skip
noncomputable def b8 : Code:=(Tryz.f8.body).getD .skip
noncomputable def b9 : Code:=(Tryz.f9.body).getD .skip
noncomputable def b12 : Code:=(Tryz.f12.body).getD .skip
noncomputable def b3 : Code:=(Tryz.f3.body).getD .skip
theorem CL : iw Tryz.prog E:=O3 (by kernel_rfl) (by kernel_rfl) (by kernel_rfl) (by kernel_rfl) (by kernel_rfl)
  (List.forall_mem_cons.2 ⟨Tryz.func14,(List.forall_mem_cons.2 ⟨Tryz.func56,(List.forall_mem_cons.2 ⟨Tryz.func59,(List.forall_mem_cons.2 ⟨Tryz.func60,(List.forall_mem_cons.2 ⟨Tryz.func32,(List.forall_mem_cons.2 ⟨Tryz.func48,(List.forall_mem_cons.2 ⟨Tryz.func78,(List.forall_mem_cons.2 ⟨Tryz.func79,(List.forall_mem_cons.2 ⟨Tryz.func69,(List.forall_mem_cons.2 ⟨Tryz.func36,(List.forall_mem_cons.2 ⟨Tryz.func38,(List.forall_mem_cons.2 ⟨Tryz.func49,(List.forall_mem_cons.2 ⟨Tryz.func80,(List.forall_mem_cons.2 ⟨Tryz.func81,(List.forall_mem_cons.2 ⟨Tryz.func97,(List.forall_mem_cons.2 ⟨Tryz.func98,(List.forall_mem_cons.2 ⟨Tryz.func99,(List.forall_mem_cons.2 ⟨Tryz.func86,(List.forall_mem_cons.2 ⟨Tryz.func82,(List.forall_mem_cons.2 ⟨Tryz.func76,(List.forall_mem_cons.2 ⟨Tryz.func87,(List.forall_mem_cons.2 ⟨Tryz.func100,(List.forall_mem_cons.2 ⟨Tryz.func88,(List.forall_mem_cons.2 ⟨Tryz.func83,(List.forall_mem_cons.2 ⟨Tryz.func89,(List.forall_mem_cons.2 ⟨Tryz.func101,(List.forall_mem_cons.2 ⟨Tryz.func111,(List.forall_mem_cons.2 ⟨Tryz.func102,(List.forall_mem_cons.2 ⟨Tryz.func90,(List.forall_mem_cons.2 ⟨Tryz.func112,(List.forall_mem_cons.2 ⟨Tryz.func113,(List.forall_mem_cons.2 ⟨Tryz.func94,(List.forall_mem_cons.2 ⟨Tryz.func95,(List.forall_mem_cons.2 ⟨Tryz.func103,(List.forall_mem_cons.2 ⟨Tryz.func104,(List.forall_mem_cons.2 ⟨Tryz.func137,(List.forall_mem_cons.2 ⟨Tryz.func118,(List.forall_mem_cons.2 ⟨Tryz.func150,(List.forall_mem_cons.2 ⟨Tryz.func73,(List.forall_mem_cons.2 ⟨Tryz.func149,(List.forall_mem_cons.2 ⟨Tryz.func132,(List.forall_mem_cons.2 ⟨Tryz.func154,(List.forall_mem_cons.2 ⟨Tryz.func151,(List.forall_mem_cons.2 ⟨Tryz.func138,(List.forall_mem_cons.2 ⟨Tryz.func140,(List.forall_mem_cons.2 ⟨Tryz.func139,(List.forall_mem_cons.2 ⟨Tryz.func141,(List.forall_mem_cons.2 ⟨Tryz.func114,(List.forall_mem_cons.2 ⟨Tryz.func115,(List.forall_mem_cons.2 ⟨Tryz.func116,(List.forall_mem_cons.2 ⟨Tryz.func119,(List.forall_mem_cons.2 ⟨Tryz.func142,(List.forall_mem_cons.2 ⟨Tryz.func117,(List.forall_mem_cons.2 ⟨Tryz.func105,(List.forall_mem_cons.2 ⟨Tryz.func91,(List.forall_mem_cons.2 ⟨Tryz.func106,(List.forall_mem_cons.2 ⟨Tryz.func120,(List.forall_mem_cons.2 ⟨Tryz.func121,(List.forall_mem_cons.2 ⟨Tryz.func107,(List.forall_mem_cons.2 ⟨Tryz.func92,(List.forall_mem_cons.2 ⟨Tryz.func93,(List.forall_mem_cons.2 ⟨Tryz.func84,(List.forall_mem_cons.2 ⟨Tryz.func122,(List.forall_mem_cons.2 ⟨Tryz.func143,(List.forall_mem_cons.2 ⟨Tryz.func123,(List.forall_mem_cons.2 ⟨Tryz.func124,(List.forall_mem_cons.2 ⟨Tryz.func125,(List.forall_mem_cons.2 ⟨Tryz.func108,(List.forall_mem_cons.2 ⟨Tryz.func96,(List.forall_mem_cons.2 ⟨Tryz.func85,(List.forall_mem_cons.2 ⟨Tryz.func77,(List.forall_mem_cons.2 ⟨Tryz.func68,(List.forall_mem_cons.2 ⟨Tryz.func51,(List.forall_mem_cons.2 ⟨Tryz.func11,(List.forall_mem_cons.2 ⟨Tryz.func15,(List.forall_mem_cons.2 ⟨Tryz.func17,(List.forall_mem_cons.2 ⟨Tryz.func7,(List.forall_mem_cons.2 ⟨Tryz.func27,(List.forall_mem_cons.2 ⟨Tryz.func28,(List.forall_mem_cons.2 ⟨Tryz.func29,(List.forall_mem_cons.2 ⟨Tryz.func10,(List.forall_mem_cons.2 ⟨Tryz.func8,(List.forall_mem_cons.2 ⟨Tryz.func9,(List.forall_mem_cons.2 ⟨Tryz.func12,(List.forall_mem_cons.2 ⟨Tryz.func3,(by intro x h; cases h)⟩)⟩)⟩)⟩)⟩)⟩)⟩)⟩)⟩)⟩)⟩)⟩)⟩)⟩)⟩)⟩)⟩)⟩)⟩)⟩)⟩)⟩)⟩)⟩)⟩)⟩)⟩)⟩)⟩)⟩)⟩)⟩)⟩)⟩)⟩)⟩)⟩)⟩)⟩)⟩)⟩)⟩)⟩)⟩)⟩)⟩)⟩)⟩)⟩)⟩)⟩)⟩)⟩)⟩)⟩)⟩)⟩)⟩)⟩)⟩)⟩)⟩)⟩)⟩)⟩)⟩)⟩)⟩)⟩)⟩)⟩)⟩)⟩)⟩)⟩)⟩)⟩)⟩)⟩)⟩)⟩)⟩)⟩)⟩)⟩)
  (List.forall_mem_cons.2 ⟨iO (t:=22) (te:=36) (b:=4) (e:=qT) Tryz.func36 rfl rfl rfl (by kernel_rfl) (by kernel_rfl) ⟨40,by kernel_rfl⟩,(List.forall_mem_cons.2 ⟨iO (t:=24) (te:=3) (b:=4) (e:=iT) Tryz.func38 rfl rfl rfl (by kernel_rfl) (by kernel_rfl) ⟨40,by kernel_rfl⟩,(List.forall_mem_cons.2 ⟨iO (t:=31) (te:=24) (b:=4) (e:=lT) Tryz.func89 rfl rfl rfl (by kernel_rfl) (by kernel_rfl) ⟨40,by kernel_rfl⟩,(by intro x h; cases h)⟩)⟩)⟩)
  (by intro x h; cases h)
  (List.forall_mem_cons.2 ⟨⟨⟨_,Tryz.func56,by kernel_rfl,rfl⟩,Gp⟩,(List.forall_mem_cons.2 ⟨⟨⟨_,Tryz.func59,by kernel_rfl,rfl⟩,MA⟩,(List.forall_mem_cons.2 ⟨⟨⟨_,Tryz.func60,by kernel_rfl,rfl⟩,Ge⟩,(List.forall_mem_cons.2 ⟨⟨⟨_,Tryz.func98,by kernel_rfl,rfl⟩,JD laySort⟩,(List.forall_mem_cons.2 ⟨⟨⟨_,Tryz.func99,by kernel_rfl,rfl⟩,CQ layCompact⟩,(List.forall_mem_cons.2 ⟨⟨⟨_,Tryz.func95,by kernel_rfl,rfl⟩,M3 layDelete⟩,(List.forall_mem_cons.2 ⟨⟨⟨_,Tryz.func141,by kernel_rfl,rfl⟩,DR laySortBy O4 Mf Hn O1⟩,(by intro x h; cases h)⟩)⟩)⟩)⟩)⟩)⟩)⟩)
  (List.forall_mem_cons.2 ⟨⟨⟨_,Tryz.func52,by kernel_rfl,rfl⟩,OD (by kernel_rfl) (by kernel_rfl)⟩,(List.forall_mem_cons.2 ⟨⟨⟨_,Tryz.func53,by kernel_rfl,rfl⟩,J1 (by kernel_rfl) (by kernel_rfl) (iO (t:=22) (te:=36) (b:=4) (e:=qT) Tryz.func36 rfl rfl rfl (by kernel_rfl) (by kernel_rfl) ⟨40,by kernel_rfl⟩).2 (iO (t:=24) (te:=3) (b:=4) (e:=iT) Tryz.func38 rfl rfl rfl (by kernel_rfl) (by kernel_rfl) ⟨40,by kernel_rfl⟩).2⟩,(List.forall_mem_cons.2 ⟨⟨⟨_,Tryz.func30,by kernel_rfl,rfl⟩,MX (by kernel_rfl) (by kernel_rfl) (by kernel_rfl) (by kernel_rfl)⟩,(List.forall_mem_cons.2 ⟨⟨⟨_,Tryz.func31,by kernel_rfl,rfl⟩,conDo (by kernel_rfl) (by kernel_rfl) (by kernel_rfl) (iO (t:=22) (te:=36) (b:=4) (e:=qT) Tryz.func36 rfl rfl rfl (by kernel_rfl) (by kernel_rfl) ⟨40,by kernel_rfl⟩).2 (iO (t:=24) (te:=3) (b:=4) (e:=iT) Tryz.func38 rfl rfl rfl (by kernel_rfl) (by kernel_rfl) ⟨40,by kernel_rfl⟩).2⟩,(by intro x h; cases h)⟩)⟩)⟩)⟩)
  (by kernel_rfl)
theorem mixed : Tryz.prog.follows .mixedOrders = true:=by kernel_rfl
end Go.Proofs.YtfjpfjnepdhnaaaGreat
