/- The tables of the program,and that they are true. -/
import Derived.Test.YtjkoadoekaplpaaGreatW5
import Derived.Test.YtjkoadoekaplpaaGreatProg
namespace Go.Proofs.YtjkoadoekaplpaaGreat.R
open Go
set_option linter.unusedVariables false
set_option linter.unusedSimpArgs false
section
section
variable {E:Env}
open Classical in theorem multi_rep {α:Type} (x:Option α):∀(n:Nat),bAc (List.replicate (n+1) x)=x:=fun n=>by
 show(if ∀y∈List.replicate n x,y=x then x else none)=x
 rw[if_pos fun y hy=>List.eq_of_mem_replicate hy]
theorem multi2{α:Type}(x:Option α):bAc [x,x]=x:=multi_rep x 1
theorem multi3{α:Type}(x:Option α):bAc [x,x,x]=x:=multi_rep x 2
theorem multi4{α:Type}(x:Option α):bAc [x,x,x,x]=x:=multi_rep x 3
theorem multi5{α:Type}(x:Option α):bAc [x,x,x,x,x]=x:=multi_rep x 4
theorem multi6{α:Type}(x:Option α):bAc [x,x,x,x,x,x]=x:=multi_rep x 5
theorem multi1{α:Type}(x:Option α):bAc [x]=x:=multi_rep x 0
theorem DM_fix(s:List Sh)(t:List It)(st:St):DM E s t st=bQg E s (DM E s) (DF E) t st:=by
 apply Option.ext
 intro r
 constructor
 .intro h
  obtain⟨n,h⟩:=DM_iff.1 h
  cases n with
  |zero=>cases h
  |succ n=>
   have hD:∀s,bQa s (runF E n s) (fun _=>DM E s):=fun s t st r h=>⟨0,fun _ _=>DM_iff.2 ⟨n,h⟩⟩
   obtain⟨m,h1⟩:=cJf (hD s) (cBb (Dn:=fun _=>DM E) hD) (show bQg E s (runF E n s) (bCs E (runF E n)) t st=some r from h)
   exact h1 m (Nat.le_refl _)
 .intro h
  have hD:∀s,bQa s (DM E s) (fun n=>runF E n s):=fun s t st r h=>by
   obtain⟨n,h⟩:=DM_iff.1 h
   exact⟨n,fun m hm=>cB1 hm h⟩
  obtain⟨n,h1⟩:=cJf (hD s) (cBb (Dn:=runF E) hD) h
  exact DM_iff.2 ⟨n+1,h1 n (Nat.le_refl _)⟩
theorem DM_run(s:List Sh):∀(n:Nat) (t:List It) (st:St),DM E s t st=runM E s (DM E s) (DF E) n t st
 |0,t,st=>rfl
 |n+1,t,st=>by
  have ih:runM E s (DM E s) (DF E) n=DM E s:=funext fun t=>funext fun st=>(DM_run s n t st).symm
  unfold runM
  split
  .rfl
  .rw[ih];exact DM_fix s t st
theorem D_eq(n:Nat)(f:FuncId)(a:List AV)(s:List Sh):DF E f a s=D0 E n f a s:=by
 unfold D0
 cases h:bAa E.hk f with
 |some k=>rfl
 |none=>
  unfold DF bCs bMh
  simp only[h]
  split
  .exact DM_run s n _ _
  .rfl
theorem DM_loop(n:Nat)(s:List Sh)(b:Code)(k:List It)(st:St):DM E s (.loopAt b::k) st=runM E s (DM E s) (DF E) n (.code b :: .inLoop b::k) st:=by
 rw[DM_fix]
 exact DM_run s n _ _
end
end
end Go.Proofs.YtjkoadoekaplpaaGreat.R
namespace Go.Proofs.YtjkoadoekaplpaaGreat
open Go Go.Proofs.YtjkoadoekaplpaaGreat.R
set_option maxRecDepth 100000
set_option linter.unusedVariables false
set_option linter.unusedSimpArgs false
section
noncomputable def E:Env:=⟨[(2,(.int .i64)),(3,(.int .i64)),(4,.bool),(5,(.int .u8)),(6,(.int .u8)),(7,(.pair (.int .i64) (.pair (.int .i64) (.pair .bool (.int .u8))))),(8,(.pair (.int .i64) (.pair (.int .i64) (.pair .bool (.int .u8))))),(12,(.int .u64)),(21,(.int .i32)),(22,(.list (.pair (.int .i64) (.int .i64)))),(23,(.list (.pair (.int .i64) (.int .i64)))),(24,(.list (.int .i64))),(25,(.pair (.int .i64) (.pair (.list (.pair (.int .i64) (.int .i64))) (.pair (.list (.pair (.int .i64) (.int .i64))) (.pair (.list (.int .i64)) (.list (.int .i64))))))),(26,(.pair (.int .i64) (.pair (.list (.pair (.int .i64) (.int .i64))) (.pair (.list (.pair (.int .i64) (.int .i64))) (.pair (.list (.int .i64)) (.list (.int .i64))))))),(30,(.int .i64)),(35,(.list (.list (.int .i64)))),(36,(.pair (.list (.pair (.int .i64) (.int .i64))) (.int .i64))),(37,(.pair (.list (.pair (.int .i64) (.int .i64))) (.int .i64))),(38,(.pair (.int .i64) (.pair (.int .i64) (.pair (.list (.int .i64)) (.pair (.list (.list (.int .i64))) (.pair (.list (.int .i64)) (.pair (.list (.pair (.int .i64) (.int .i64))) (.int .i64)))))))),(39,(.pair (.int .i64) (.pair (.int .i64) (.pair (.list (.int .i64)) (.pair (.list (.list (.int .i64))) (.pair (.list (.int .i64)) (.pair (.list (.pair (.int .i64) (.int .i64))) (.int .i64)))))))),(40,(.pair (.pair (.int .i64) (.pair (.list (.pair (.int .i64) (.int .i64))) (.pair (.list (.pair (.int .i64) (.int .i64))) (.pair (.list (.int .i64)) (.list (.int .i64)))))) (.pair (.int .i64) (.pair (.int .i64) (.pair (.list (.int .i64)) (.pair (.list (.list (.int .i64))) (.pair (.list (.int .i64)) (.pair (.list (.pair (.int .i64) (.int .i64))) (.int .i64))))))))),(41,(.pair (.pair (.int .i64) (.pair (.list (.pair (.int .i64) (.int .i64))) (.pair (.list (.pair (.int .i64) (.int .i64))) (.pair (.list (.int .i64)) (.list (.int .i64)))))) (.pair (.int .i64) (.pair (.int .i64) (.pair (.list (.int .i64)) (.pair (.list (.list (.int .i64))) (.pair (.list (.int .i64)) (.pair (.list (.pair (.int .i64) (.int .i64))) (.int .i64))))))))),(50,(.list (.int .u64))),(54,(.int .u64)),(57,(.int .u64)),(58,(.list .bool)),(81,(.pair (.int .i64) (.int .i64))),(82,(.pair (.int .i64) (.int .i64))),(84,(.pair (.int .i64) (.int .i64))),(85,(.pair (.int .i64) (.int .i64))),(101,(.pair (.int .i64) (.pair (.list (.list (.int .i64))) (.list (.list (.int .i64)))))),(102,(.pair (.int .i64) (.pair (.list (.list (.int .i64))) (.list (.list (.int .i64)))))),(105,(.pair .bool (.pair (.list .bool) (.pair (.list (.int .i64)) (.pair (.list (.list (.int .i64))) (.int .i64)))))),(106,(.pair .bool (.pair (.list .bool) (.pair (.list (.int .i64)) (.pair (.list (.list (.int .i64))) (.int .i64)))))),(128,(.int .u32)),(148,(.pair (.int .i64) (.pair (.list (.int .i64)) (.list (.int .i64))))),(149,(.pair (.int .i64) (.pair (.list (.int .i64)) (.list (.int .i64))))),(152,(.pair (.int .i64) (.pair (.list (.int .i64)) (.pair (.list (.int .i64)) (.pair (.list (.list (.int .i64))) (.pair (.pair (.int .i64) (.pair (.list (.int .i64)) (.list (.int .i64)))) (.pair .bool (.pair (.list .bool) (.pair (.list (.int .i64)) (.pair (.list (.list (.int .i64))) (.int .i64))))))))))),(153,(.pair (.int .i64) (.pair (.list (.int .i64)) (.pair (.list (.int .i64)) (.pair (.list (.list (.int .i64))) (.pair (.pair (.int .i64) (.pair (.list (.int .i64)) (.list (.int .i64)))) (.pair .bool (.pair (.list .bool) (.pair (.list (.int .i64)) (.pair (.list (.list (.int .i64))) (.int .i64))))))))))),(167,(.list (.int .u8))),(191,(.list (.pair (.int .i64) (.int .i64)))),(194,(.pair (.int .i64) (.int .i64))),(195,(.pair (.int .i64) (.int .i64))),(203,(.pair (.int .i64) (.pair (.list (.list (.int .i64))) (.pair (.pair (.int .i64) (.pair (.list (.int .i64)) (.list (.int .i64)))) (.pair .bool (.pair (.list .bool) (.pair (.list (.int .i64)) (.pair (.list (.list (.int .i64))) (.int .i64))))))))),(204,(.pair (.int .i64) (.pair (.list (.list (.int .i64))) (.pair (.pair (.int .i64) (.pair (.list (.int .i64)) (.list (.int .i64)))) (.pair .bool (.pair (.list .bool) (.pair (.list (.int .i64)) (.pair (.list (.list (.int .i64))) (.int .i64))))))))),(217,(.int .i64)),(234,(.int .u64)),(261,(.int .u8)),(262,(.int .u8)),(265,(.int .i32)),(266,(.int .i32))],
 [(7,(4,[(0,2),(1,3),(2,4),(3,6)])),(8,(4,[(0,2),(1,3),(2,4),(3,6)])),(25,(5,[(0,3),(1,22),(2,23),(3,24),(4,24)])),(26,(5,[(0,3),(1,22),(2,23),(3,24),(4,24)])),(36,(2,[(0,23),(1,3)])),(37,(2,[(0,23),(1,3)])),(38,(7,[(0,3),(1,3),(2,24),(3,35),(4,24),(5,37)])),(39,(7,[(0,3),(1,3),(2,24),(3,35),(4,24),(5,37)])),(40,(12,[(0,26),(5,39)])),(41,(12,[(0,26),(5,39)])),(81,(2,[(0,3),(1,3)])),(82,(2,[(0,3),(1,3)])),(84,(2,[(0,3),(1,3)])),(85,(2,[(0,3),(1,3)])),(101,(3,[(0,3),(1,35),(2,35)])),(102,(3,[(0,3),(1,35),(2,35)])),(105,(5,[(0,4),(1,58),(2,24),(3,35),(4,3)])),(106,(5,[(0,4),(1,58),(2,24),(3,35),(4,3)])),(148,(3,[(0,3),(1,24),(2,24)])),(149,(3,[(0,3),(1,24),(2,24)])),(152,(12,[(0,3),(1,24),(2,24),(3,35),(4,149),(7,106)])),(153,(12,[(0,3),(1,24),(2,24),(3,35),(4,149),(7,106)])),(194,(2,[(0,3),(1,3)])),(195,(2,[(0,3),(1,3)])),(203,(10,[(0,3),(1,35),(2,149),(5,106)])),(204,(10,[(0,3),(1,35),(2,149),(5,106)]))],
 [(92,(6,(.int .u64))),(113,(4,(.int .i64))),(141,(2,(.int .i64))),(230,(4001,.bool))],
 [(1,()),(15,()),(16,()),(17,()),(27,()),(28,()),(29,()),(32,()),(34,()),(43,()),(45,()),(46,()),(47,()),(48,()),(49,()),(52,()),(53,()),(55,()),(56,()),(59,()),(61,()),(62,()),(63,()),(65,()),(67,()),(68,()),(69,()),(70,()),(72,()),(75,()),(76,()),(77,()),(79,()),(80,()),(83,()),(86,()),(87,()),(89,()),(91,()),(93,()),(94,()),(95,()),(96,()),(97,()),(98,()),(100,()),(104,()),(108,()),(109,()),(110,()),(112,()),(114,()),(115,()),(116,()),(117,()),(118,()),(119,()),(120,()),(124,()),(125,()),(126,()),(127,()),(130,()),(132,()),(133,()),(134,()),(135,()),(136,()),(137,()),(138,()),(139,()),(140,()),(142,()),(143,()),(145,()),(146,()),(147,()),(150,()),(151,()),(155,()),(156,()),(157,()),(158,()),(159,()),(160,()),(162,()),(164,()),(165,()),(166,()),(168,()),(170,()),(171,()),(173,()),(175,()),(177,()),(178,()),(179,()),(180,()),(181,()),(183,()),(184,()),(185,()),(186,()),(188,()),(189,()),(190,()),(193,()),(196,()),(197,()),(198,()),(200,()),(201,()),(202,()),(205,()),(206,()),(207,()),(208,()),(209,()),(211,()),(212,()),(213,()),(214,()),(215,()),(216,()),(219,()),(220,()),(221,()),(222,()),(223,()),(224,()),(226,()),(227,()),(228,()),(229,()),(231,()),(232,()),(233,()),(235,()),(236,()),(237,()),(238,()),(239,()),(240,()),(241,()),(242,()),(243,()),(244,()),(245,()),(246,()),(247,()),(248,()),(249,()),(250,()),(251,()),(252,()),(253,()),(254,()),(255,()),(263,()),(264,())],
 [(37,([.ro],[(.d (.int .i64))])),(44,([.ro],[(.d (.int .i64)),(.d (.int .i64))])),(32,([.ro],[(.d (.int .u64))])),(45,([.ro],[(.d (.int .u64))])),(18,([.ro],[(.own (.int .u64)),(.d (.int .i64))])),(75,([.ro,.ro],[(.d (.int .u32)),(.d (.int .u32))])),(76,([.ro,.ro],[(.d (.int .u64)),(.d (.int .u64))])),(55,([.ro,.ro],[(.d (.int .u64)),(.d (.int .u64))])),(77,([.ro,.ro,.io (.own .bool)],[])),(78,([.ro,.ro],[(.d (.int .i64))])),(105,([.ro,.ro],[(.d .bool)])),(41,([.ro],[(.own (.int .i64))])),(91,([.ro,.ro],[(.own (.int .i64)),(.d .bool),(.d (.int .i64))])),(79,([.mv (.own (.list (.int .i64))),.ro,.ro],[(.own (.list (.int .i64)))])),(56,([.ro,.ro],[(.agg (.d (.int .i64)) (.agg (.own (.list (.int .i64))) (.own (.list (.int .i64))))),(.d (.int .i64))])),(92,([.ro,.ro],[(.d (.int .i64))])),(108,([.ro,.ro],[(.d .bool)])),(93,([.ro],[(.d (.int .i64))])),(80,([.ro,.ro,.ro,.ro],[(.d (.int .i64))])),(94,([.ro],[(.own (.list (.int .i64)))])),(109,([.ro],[(.own (.int .u8))])),(124,([.ro,.ro],[(.d (.int .u8)),(.d (.int .i64))])),(110,([.ro,.ro],[(.d (.int .i64)),(.d (.int .i64))])),(95,([.ro,.ro],[(.agg (.d (.int .i64)) (.agg (.own (.int .i64)) (.own (.int .i64)))),(.d (.int .i64)),(.d (.int .i64))])),(125,([.ro,.ro,.ro],[(.d (.int .i64))])),(126,([.ro,.ro,.ro],[(.d .bool)])),(99,([.ro,.ro],[(.d (.int .i64))])),(111,([.ro,.ro,.ro],[(.own (.int .i64)),(.d (.int .i64))])),(112,([.io (.agg (.d (.int .i64)) (.agg (.d (.list (.int .i64))) (.agg (.own (.int .i64)) (.agg (.own (.list (.int .i64))) (.agg (.agg (.d (.int .i64)) (.agg (.own (.int .i64)) (.own (.int .i64)))) (.agg (.d .bool) (.agg (.own .bool) (.agg (.own (.int .i64)) (.agg (.own (.list (.int .i64))) (.d (.int .i64))))))))))),.ro],[(.d (.int .i64))])),(164,([.ro,.ro],[(.d (.int .u8)),(.d (.int .i64)),(.d (.int .i64))])),(131,([.ro,.ro],[(.d (.int .i64))])),(188,([.ro],[(.d .bool)])),(86,([.ro,.ro],[(.d (.int .i64))])),(187,([.ro],[(.d .bool)])),(159,([.ro,.ro],[(.d .bool)])),(197,([.ro],[(.d .bool)])),(189,([.ro,.ro],[(.d (.int .i64)),(.d .bool)])),(165,([.ro,.ro],[(.d (.int .i64)),(.d (.int .i64))])),(167,([.ro,.ro],[(.d (.int .i64))])),(166,([.ro,.ro],[(.d (.int .i64))])),(127,([.ro,.ro],[(.own (.pair (.int .i64) (.int .i64))),(.d (.int .i64))])),(128,([.ro],[(.d (.int .i64))])),(129,([.ro,.ro],[(.agg (.d (.int .i64)) (.agg (.own (.int .i64)) (.own (.int .i64)))),(.d (.int .i64))])),(132,([.ro,.ro],[(.d .bool)])),(169,([.ro,.ro],[(.agg (.d (.int .i64)) (.agg (.own (.int .i64)) (.own (.int .i64)))),(.d (.int .i64))])),(130,([.ro,.ro],[(.agg (.d (.int .i64)) (.agg (.own (.int .i64)) (.own (.int .i64)))),(.d (.int .i64))])),(113,([.ro,.ro],[(.agg (.d (.int .i64)) (.agg (.own (.int .i64)) (.own (.int .i64)))),(.d (.int .i64))])),(96,([.io (.agg (.d (.int .i64)) (.agg (.d (.list (.int .i64))) (.agg (.own (.int .i64)) (.agg (.own (.list (.int .i64))) (.agg (.agg (.d (.int .i64)) (.agg (.own (.int .i64)) (.own (.int .i64)))) (.agg (.d .bool) (.agg (.own .bool) (.agg (.own (.int .i64)) (.agg (.own (.list (.int .i64))) (.d (.int .i64)))))))))))],[(.d .bool),(.d (.int .i64))])),(114,([.ro,.ro],[(.d (.int .u8)),(.d (.int .i64))])),(133,([.ro],[(.d (.int .i64))])),(134,([.mv (.own (.int .i64))],[(.d (.int .i64)),(.own (.int .i64))])),(115,([.ro,.ro],[(.d (.int .i64)),(.own (.int .i64)),(.d (.int .i64))])),(97,([.io (.agg (.d (.int .i64)) (.agg (.d (.list (.int .i64))) (.agg (.own (.int .i64)) (.agg (.own (.list (.int .i64))) (.agg (.agg (.d (.int .i64)) (.agg (.own (.int .i64)) (.own (.int .i64)))) (.agg (.d .bool) (.agg (.own .bool) (.agg (.own (.int .i64)) (.agg (.own (.list (.int .i64))) (.d (.int .i64)))))))))))],[(.d (.int .i64))])),(98,([.io (.agg (.d (.int .i64)) (.agg (.d (.list (.int .i64))) (.agg (.own (.int .i64)) (.agg (.own (.list (.int .i64))) (.agg (.agg (.d (.int .i64)) (.agg (.own (.int .i64)) (.own (.int .i64)))) (.agg (.d .bool) (.agg (.own .bool) (.agg (.own (.int .i64)) (.agg (.own (.list (.int .i64))) (.d (.int .i64))))))))))),.ro],[(.d (.int .i64))])),(81,([.ro,.ro,.ro,.ro],[(.agg (.d .bool) (.agg (.own .bool) (.agg (.own (.int .i64)) (.agg (.own (.list (.int .i64))) (.d (.int .i64)))))),(.d (.int .i64))])),(135,([.ro,.ro],[(.d (.int .i64))])),(170,([.io (.agg (.d (.int .i64)) (.agg (.own (.list (.int .i64))) (.agg (.agg (.d (.int .i64)) (.agg (.own (.int .i64)) (.own (.int .i64)))) (.agg (.d .bool) (.agg (.own .bool) (.agg (.own (.int .i64)) (.agg (.own (.list (.int .i64))) (.d (.int .i64))))))))),.ro],[])),(136,([.io (.agg (.d (.int .i64)) (.agg (.own (.list (.int .i64))) (.agg (.agg (.d (.int .i64)) (.agg (.own (.int .i64)) (.own (.int .i64)))) (.agg (.d .bool) (.agg (.own .bool) (.agg (.own (.int .i64)) (.agg (.own (.list (.int .i64))) (.d (.int .i64)))))))))],[(.d .bool),(.d (.int .i64))])),(137,([.io (.agg (.d (.int .i64)) (.agg (.own (.list (.int .i64))) (.agg (.agg (.d (.int .i64)) (.agg (.own (.int .i64)) (.own (.int .i64)))) (.agg (.d .bool) (.agg (.own .bool) (.agg (.own (.int .i64)) (.agg (.own (.list (.int .i64))) (.d (.int .i64))))))))),.ro],[(.d .bool)])),(138,([.io (.agg (.d (.int .i64)) (.agg (.own (.list (.int .i64))) (.agg (.agg (.d (.int .i64)) (.agg (.own (.int .i64)) (.own (.int .i64)))) (.agg (.d .bool) (.agg (.own .bool) (.agg (.own (.int .i64)) (.agg (.own (.list (.int .i64))) (.d (.int .i64)))))))))],[])),(116,([.ro,.ro,.ro],[(.agg (.d .bool) (.agg (.own .bool) (.agg (.own (.int .i64)) (.agg (.own (.list (.int .i64))) (.d (.int .i64)))))),(.d (.int .i64))])),(101,([.ro,.ro,.ro],[(.d .bool),(.d (.int .i64))])),(82,([.ro,.ro,.ro],[(.own (.int .i64)),(.d (.int .i64))])),(57,([.ro,.ro,.ro,.ro],[(.agg (.d .bool) (.agg (.own .bool) (.agg (.own (.int .i64)) (.agg (.own (.list (.int .i64))) (.d (.int .i64)))))),(.d (.int .i64))])),(34,([.ro,.ro,.ro,.ro],[(.d .bool),(.d (.int .i64))])),(11,([.ro,.ro],[(.d (.list (.int .i64))),(.d (.int .i64))])),(39,([.ro],[(.own (.pair (.int .i64) (.int .i64)))])),(38,([.ro,.ro],[(.agg (.d (.int .i64)) (.agg (.d (.list (.pair (.int .i64) (.int .i64)))) (.agg (.d (.list (.pair (.int .i64) (.int .i64)))) (.agg (.d (.list (.int .i64))) (.d (.list (.int .i64))))))),(.d (.list (.int .i64))),(.d (.int .i64))])),(28,([.ro],[(.agg (.d (.int .i64)) (.agg (.d (.int .i64)) (.agg (.d (.list (.int .i64))) (.agg (.d (.list (.list (.int .i64)))) (.agg (.d (.list (.int .i64))) (.agg (.d (.list (.pair (.int .i64) (.int .i64)))) (.d (.int .i64)))))))),(.d (.int .i64))])),(40,([.ro],[(.own (.pair (.int .i64) (.int .i64)))])),(13,([.ro,.ro],[(.agg (.agg (.d (.int .i64)) (.agg (.d (.list (.pair (.int .i64) (.int .i64)))) (.agg (.d (.list (.pair (.int .i64) (.int .i64)))) (.agg (.d (.list (.int .i64))) (.d (.list (.int .i64))))))) (.agg (.d (.int .i64)) (.agg (.d (.int .i64)) (.agg (.d (.list (.int .i64))) (.agg (.d (.list (.list (.int .i64)))) (.agg (.d (.list (.int .i64))) (.agg (.d (.list (.pair (.int .i64) (.int .i64)))) (.d (.int .i64))))))))),(.d (.int .i64))])),(19,([],[(.agg (.d (.int .i64)) (.agg (.own (.pair (.int .i64) (.int .i64))) (.agg (.own (.pair (.int .i64) (.int .i64))) (.agg (.own (.int .i64)) (.own (.int .i64))))))])),(20,([],[(.agg (.d (.int .i64)) (.agg (.own (.pair (.int .i64) (.int .i64))) (.agg (.own (.pair (.int .i64) (.int .i64))) (.agg (.own (.int .i64)) (.own (.int .i64))))))])),(15,([.ro,.ro],[(.d .bool)])),(21,([],[(.d .bool)])),(4,([],[(.d .bool)]))],
 [(62,Tryz.f62),(65,Tryz.f65),(66,Tryz.f66),(37,Tryz.f37),(44,Tryz.f44),(32,Tryz.f32),(45,Tryz.f45),(18,Tryz.f18),(75,Tryz.f75),(76,Tryz.f76),(55,Tryz.f55),(77,Tryz.f77),(78,Tryz.f78),(105,Tryz.f105),(41,Tryz.f41),(106,Tryz.f106),(107,Tryz.f107),(91,Tryz.f91),(79,Tryz.f79),(56,Tryz.f56),(92,Tryz.f92),(108,Tryz.f108),(93,Tryz.f93),(80,Tryz.f80),(94,Tryz.f94),(109,Tryz.f109),(124,Tryz.f124),(110,Tryz.f110),(95,Tryz.f95),(125,Tryz.f125),(126,Tryz.f126),(99,Tryz.f99),(100,Tryz.f100),(111,Tryz.f111),(112,Tryz.f112),(164,Tryz.f164),(131,Tryz.f131),(188,Tryz.f188),(86,Tryz.f86),(187,Tryz.f187),(159,Tryz.f159),(197,Tryz.f197),(189,Tryz.f189),(165,Tryz.f165),(167,Tryz.f167),(166,Tryz.f166),(168,Tryz.f168),(127,Tryz.f127),(128,Tryz.f128),(129,Tryz.f129),(132,Tryz.f132),(169,Tryz.f169),(130,Tryz.f130),(113,Tryz.f113),(96,Tryz.f96),(114,Tryz.f114),(133,Tryz.f133),(134,Tryz.f134),(115,Tryz.f115),(97,Tryz.f97),(98,Tryz.f98),(81,Tryz.f81),(135,Tryz.f135),(170,Tryz.f170),(136,Tryz.f136),(137,Tryz.f137),(138,Tryz.f138),(116,Tryz.f116),(101,Tryz.f101),(82,Tryz.f82),(57,Tryz.f57),(34,Tryz.f34),(39,Tryz.f39),(40,Tryz.f40),(13,Tryz.f13),(19,Tryz.f19),(20,Tryz.f20),(15,Tryz.f15),(21,Tryz.f21),(4,Tryz.f4)],
 [(41,(.int .i64)),(94,(.list (.int .i64))),(39,(.pair (.int .i64) (.int .i64))),(40,(.pair (.int .i64) (.int .i64)))],
 [(37,[(11,[3,52,53,54])]),(18,[(10,[1,6,7,8,9,10,11]),(18,[7,9,12,62,63,64])]),(77,[(3,[2,3,12,13,14]),(9,[2,3,8,9])]),(107,[(4,[0,3]),(9,[0,3,4,5])]),(91,[(4,[0,1,16,17,18]),(13,[4,34,35])]),(79,[(3,[0,1,7,13,14,15])]),(56,[(5,[1,2,4,6,29,30,31]),(15,[2,4,6,10,11,12,13]),(23,[4,10,11,12,14,85,86,87])]),(92,[(4,[0,1,13,14,15])]),(93,[(5,[1,3,21,22,23]),(12,[1,45,46,47])]),(80,[(6,[0,2,28,29,30])]),(109,[(3,[1,3,13,14]),(8,[3,22,23,24])]),(124,[(3,[0,6,7,10,11,12])]),(110,[(3,[0,6,11,12,13])]),(95,[(7,[1,2,4,25,26,27]),(15,[1,4,11,12])]),(125,[(8,[0,23,24,25])]),(99,[(2,[0,1,7,8])]),(111,[(8,[0,1,9,31,32,33]),(17,[14,52,53,54])]),(86,[(2,[0,1,7,8])]),(189,[(3,[0,1,6,7,8])]),(127,[(8,[2,9,27,28,29])]),(96,[(3,[0,4,5,15,16,17])]),(133,[(5,[0,3,9,10,11])]),(134,[(5,[0,4,5,6]),(7,[0,4,5,6,7,26])]),(115,[(9,[0,3,9,29,30,31]),(14,[3,9,12])]),(97,[(3,[0,3,14,15,16])]),(98,[(8,[0,50,51,52])]),(81,[(3,[0,3,8,10,11]),(6,[3,8,10])]),(135,[(4,[0,10,11,12])]),(136,[(3,[0,4,15,16,17])]),(138,[(2,[0,21,22,23])]),(116,[(9,[0,2,6,9,10,11]),(12,[2,6,9,10])]),(101,[(3,[0,1,8,13,14,15])]),(82,[(3,[0,1,8,17,18,19])]),(34,[(6,[3,10,12,29,30,31])]),(15,[(4,[0,1,5])])],
 [(116,[(12,[10])])],
 [(4,[(13,47)]),(13,[(11,7),(12,7)]),(15,[(6,8)]),(18,[(14,8),(20,13)]),(45,[(2,7)]),(56,[(26,14)]),(77,[(13,1000)]),(81,[(6,14)]),(91,[(15,14)]),(95,[(13,10)]),(96,[(9,13)]),(97,[(12,13),(16,13)]),(98,[(2,16),(6,10)]),(112,[(3,1000)]),(113,[(4,10),(6,8),(9,7)]),(116,[(12,14)]),(129,[(9,12)]),(134,[(10,12),(15,12)]),(136,[(10,13)]),(137,[(4,13)]),(138,[(0,10)]),(169,[(6,7),(7,17)])],
 [],
 [(62,.calc cBx),(65,.calc (cMt 63)),(66,.calc (bXc 63 64)),(106,.inplace (.int .i64) bK2 none),(107,.take (.int .i64) Lib.compact),(100,.cut (.int .i64)),(168,.inplace (.pair (.int .i64) (.int .i64)) bHm (some 166))],
 [(11,cAr),(38,cC5),(28,cCo)],
 []⟩
def opsIn:Code->Array Oper
 |.region _ ops _=>ops
 |_=>#[]
noncomputable def b62:Code:=(Tryz.f62.body).getD .skip
noncomputable def b65:Code:=(Tryz.f65.body).getD .skip
noncomputable def b66:Code:=(Tryz.f66.body).getD .skip
noncomputable def b37:Code:=(Tryz.f37.body).getD .skip
noncomputable def b44:Code:=(Tryz.f44.body).getD .skip
noncomputable def b32:Code:=(Tryz.f32.body).getD .skip
noncomputable def b45:Code:=(Tryz.f45.body).getD .skip
noncomputable def b18:Code:=(Tryz.f18.body).getD .skip
noncomputable def b75:Code:=(Tryz.f75.body).getD .skip
noncomputable def b76:Code:=(Tryz.f76.body).getD .skip
noncomputable def b55:Code:=(Tryz.f55.body).getD .skip
noncomputable def b77:Code:=(Tryz.f77.body).getD .skip
noncomputable def b78:Code:=(Tryz.f78.body).getD .skip
noncomputable def b105:Code:=(Tryz.f105.body).getD .skip
noncomputable def b41:Code:=(Tryz.f41.body).getD .skip
noncomputable def b106:Code:=(Tryz.f106.body).getD .skip
noncomputable def b107:Code:=(Tryz.f107.body).getD .skip
noncomputable def b91:Code:=(Tryz.f91.body).getD .skip
noncomputable def b79:Code:=(Tryz.f79.body).getD .skip
noncomputable def b56:Code:=(Tryz.f56.body).getD .skip
noncomputable def b92:Code:=(Tryz.f92.body).getD .skip
noncomputable def b108:Code:=(Tryz.f108.body).getD .skip
noncomputable def b93:Code:=(Tryz.f93.body).getD .skip
noncomputable def b80:Code:=(Tryz.f80.body).getD .skip
noncomputable def b94:Code:=(Tryz.f94.body).getD .skip
noncomputable def b109:Code:=(Tryz.f109.body).getD .skip
noncomputable def b124:Code:=(Tryz.f124.body).getD .skip
noncomputable def b110:Code:=(Tryz.f110.body).getD .skip
noncomputable def b95:Code:=(Tryz.f95.body).getD .skip
noncomputable def b125:Code:=(Tryz.f125.body).getD .skip
noncomputable def b126:Code:=(Tryz.f126.body).getD .skip
noncomputable def b99:Code:=(Tryz.f99.body).getD .skip
noncomputable def b100:Code:=(Tryz.f100.body).getD .skip
noncomputable def b111:Code:=(Tryz.f111.body).getD .skip
noncomputable def b112:Code:=(Tryz.f112.body).getD .skip
noncomputable def b164:Code:=(Tryz.f164.body).getD .skip
noncomputable def b131:Code:=(Tryz.f131.body).getD .skip
noncomputable def b188:Code:=(Tryz.f188.body).getD .skip
noncomputable def b86:Code:=(Tryz.f86.body).getD .skip
noncomputable def b187:Code:=(Tryz.f187.body).getD .skip
noncomputable def b159:Code:=(Tryz.f159.body).getD .skip
noncomputable def b197:Code:=(Tryz.f197.body).getD .skip
noncomputable def b189:Code:=(Tryz.f189.body).getD .skip
noncomputable def b165:Code:=(Tryz.f165.body).getD .skip
noncomputable def b167:Code:=(Tryz.f167.body).getD .skip
noncomputable def b166:Code:=(Tryz.f166.body).getD .skip
noncomputable def b168:Code:=(Tryz.f168.body).getD .skip
noncomputable def b127:Code:=(Tryz.f127.body).getD .skip
noncomputable def b128:Code:=(Tryz.f128.body).getD .skip
noncomputable def b129:Code:=(Tryz.f129.body).getD .skip
noncomputable def b132:Code:=(Tryz.f132.body).getD .skip
noncomputable def b169:Code:=(Tryz.f169.body).getD .skip
noncomputable def b130:Code:=(Tryz.f130.body).getD .skip
noncomputable def b113:Code:=(Tryz.f113.body).getD .skip
noncomputable def b96:Code:=(Tryz.f96.body).getD .skip
noncomputable def b114:Code:=(Tryz.f114.body).getD .skip
noncomputable def b133:Code:=(Tryz.f133.body).getD .skip
noncomputable def b134:Code:=(Tryz.f134.body).getD .skip
noncomputable def b115:Code:=(Tryz.f115.body).getD .skip
noncomputable def b97:Code:=(Tryz.f97.body).getD .skip
noncomputable def b98:Code:=(Tryz.f98.body).getD .skip
noncomputable def b81:Code:=(Tryz.f81.body).getD .skip
noncomputable def b135:Code:=(Tryz.f135.body).getD .skip
noncomputable def b170:Code:=(Tryz.f170.body).getD .skip
noncomputable def b136:Code:=(Tryz.f136.body).getD .skip
noncomputable def b137:Code:=(Tryz.f137.body).getD .skip
noncomputable def b138:Code:=(Tryz.f138.body).getD .skip
noncomputable def b116:Code:=(Tryz.f116.body).getD .skip
noncomputable def b101:Code:=(Tryz.f101.body).getD .skip
noncomputable def b82:Code:=(Tryz.f82.body).getD .skip
noncomputable def b57:Code:=(Tryz.f57.body).getD .skip
noncomputable def b34:Code:=(Tryz.f34.body).getD .skip
noncomputable def b39:Code:=(Tryz.f39.body).getD .skip
noncomputable def b40:Code:=(Tryz.f40.body).getD .skip
noncomputable def b13:Code:=(Tryz.f13.body).getD .skip
noncomputable def b19:Code:=(Tryz.f19.body).getD .skip
noncomputable def b20:Code:=(Tryz.f20.body).getD .skip
noncomputable def b15:Code:=(Tryz.f15.body).getD .skip
noncomputable def b21:Code:=(Tryz.f21.body).getD .skip
noncomputable def b4:Code:=(Tryz.f4.body).getD .skip
theorem e_ok:bGk Tryz.prog E:=allOk (by kernel_rfl) (by kernel_rfl) (by kernel_rfl) (by kernel_rfl) (by kernel_rfl)
 (List.forall_mem_cons.2 ⟨Tryz.func62,(List.forall_mem_cons.2 ⟨Tryz.func65,(List.forall_mem_cons.2 ⟨Tryz.func66,(List.forall_mem_cons.2 ⟨Tryz.func37,(List.forall_mem_cons.2 ⟨Tryz.func44,(List.forall_mem_cons.2 ⟨Tryz.func32,(List.forall_mem_cons.2 ⟨Tryz.func45,(List.forall_mem_cons.2 ⟨Tryz.func18,(List.forall_mem_cons.2 ⟨Tryz.func75,(List.forall_mem_cons.2 ⟨Tryz.func76,(List.forall_mem_cons.2 ⟨Tryz.func55,(List.forall_mem_cons.2 ⟨Tryz.func77,(List.forall_mem_cons.2 ⟨Tryz.func78,(List.forall_mem_cons.2 ⟨Tryz.func105,(List.forall_mem_cons.2 ⟨Tryz.func41,(List.forall_mem_cons.2 ⟨Tryz.func106,(List.forall_mem_cons.2 ⟨Tryz.func107,(List.forall_mem_cons.2 ⟨Tryz.func91,(List.forall_mem_cons.2 ⟨Tryz.func79,(List.forall_mem_cons.2 ⟨Tryz.func56,(List.forall_mem_cons.2 ⟨Tryz.func92,(List.forall_mem_cons.2 ⟨Tryz.func108,(List.forall_mem_cons.2 ⟨Tryz.func93,(List.forall_mem_cons.2 ⟨Tryz.func80,(List.forall_mem_cons.2 ⟨Tryz.func94,(List.forall_mem_cons.2 ⟨Tryz.func109,(List.forall_mem_cons.2 ⟨Tryz.func124,(List.forall_mem_cons.2 ⟨Tryz.func110,(List.forall_mem_cons.2 ⟨Tryz.func95,(List.forall_mem_cons.2 ⟨Tryz.func125,(List.forall_mem_cons.2 ⟨Tryz.func126,(List.forall_mem_cons.2 ⟨Tryz.func99,(List.forall_mem_cons.2 ⟨Tryz.func100,(List.forall_mem_cons.2 ⟨Tryz.func111,(List.forall_mem_cons.2 ⟨Tryz.func112,(List.forall_mem_cons.2 ⟨Tryz.func164,(List.forall_mem_cons.2 ⟨Tryz.func131,(List.forall_mem_cons.2 ⟨Tryz.func188,(List.forall_mem_cons.2 ⟨Tryz.func86,(List.forall_mem_cons.2 ⟨Tryz.func187,(List.forall_mem_cons.2 ⟨Tryz.func159,(List.forall_mem_cons.2 ⟨Tryz.func197,(List.forall_mem_cons.2 ⟨Tryz.func189,(List.forall_mem_cons.2 ⟨Tryz.func165,(List.forall_mem_cons.2 ⟨Tryz.func167,(List.forall_mem_cons.2 ⟨Tryz.func166,(List.forall_mem_cons.2 ⟨Tryz.func168,(List.forall_mem_cons.2 ⟨Tryz.func127,(List.forall_mem_cons.2 ⟨Tryz.func128,(List.forall_mem_cons.2 ⟨Tryz.func129,(List.forall_mem_cons.2 ⟨Tryz.func132,(List.forall_mem_cons.2 ⟨Tryz.func169,(List.forall_mem_cons.2 ⟨Tryz.func130,(List.forall_mem_cons.2 ⟨Tryz.func113,(List.forall_mem_cons.2 ⟨Tryz.func96,(List.forall_mem_cons.2 ⟨Tryz.func114,(List.forall_mem_cons.2 ⟨Tryz.func133,(List.forall_mem_cons.2 ⟨Tryz.func134,(List.forall_mem_cons.2 ⟨Tryz.func115,(List.forall_mem_cons.2 ⟨Tryz.func97,(List.forall_mem_cons.2 ⟨Tryz.func98,(List.forall_mem_cons.2 ⟨Tryz.func81,(List.forall_mem_cons.2 ⟨Tryz.func135,(List.forall_mem_cons.2 ⟨Tryz.func170,(List.forall_mem_cons.2 ⟨Tryz.func136,(List.forall_mem_cons.2 ⟨Tryz.func137,(List.forall_mem_cons.2 ⟨Tryz.func138,(List.forall_mem_cons.2 ⟨Tryz.func116,(List.forall_mem_cons.2 ⟨Tryz.func101,(List.forall_mem_cons.2 ⟨Tryz.func82,(List.forall_mem_cons.2 ⟨Tryz.func57,(List.forall_mem_cons.2 ⟨Tryz.func34,(List.forall_mem_cons.2 ⟨Tryz.func39,(List.forall_mem_cons.2 ⟨Tryz.func40,(List.forall_mem_cons.2 ⟨Tryz.func13,(List.forall_mem_cons.2 ⟨Tryz.func19,(List.forall_mem_cons.2 ⟨Tryz.func20,(List.forall_mem_cons.2 ⟨Tryz.func15,(List.forall_mem_cons.2 ⟨Tryz.func21,(List.forall_mem_cons.2 ⟨Tryz.func4,(by intro x h;cases h)⟩)⟩)⟩)⟩)⟩)⟩)⟩)⟩)⟩)⟩)⟩)⟩)⟩)⟩)⟩)⟩)⟩)⟩)⟩)⟩)⟩)⟩)⟩)⟩)⟩)⟩)⟩)⟩)⟩)⟩)⟩)⟩)⟩)⟩)⟩)⟩)⟩)⟩)⟩)⟩)⟩)⟩)⟩)⟩)⟩)⟩)⟩)⟩)⟩)⟩)⟩)⟩)⟩)⟩)⟩)⟩)⟩)⟩)⟩)⟩)⟩)⟩)⟩)⟩)⟩)⟩)⟩)⟩)⟩)⟩)⟩)⟩)⟩)⟩)⟩)⟩)⟩)⟩)⟩)⟩)
 (List.forall_mem_cons.2 ⟨bLm (t:=24) (te:=3) (b:=4) (e:=(.int .i64)) Tryz.func41 rfl rfl rfl (by kernel_rfl) (by kernel_rfl) ⟨40,by kernel_rfl⟩,(List.forall_mem_cons.2 ⟨bLm (t:=35) (te:=24) (b:=4) (e:=(.list (.int .i64))) Tryz.func94 rfl rfl rfl (by kernel_rfl) (by kernel_rfl) ⟨40,by kernel_rfl⟩,(List.forall_mem_cons.2 ⟨bLm (t:=22) (te:=82) (b:=4) (e:=(.pair (.int .i64) (.int .i64))) Tryz.func39 rfl rfl rfl (by kernel_rfl) (by kernel_rfl) ⟨40,by kernel_rfl⟩,(List.forall_mem_cons.2 ⟨bLm (t:=23) (te:=85) (b:=4) (e:=(.pair (.int .i64) (.int .i64))) Tryz.func40 rfl rfl rfl (by kernel_rfl) (by kernel_rfl) ⟨40,by kernel_rfl⟩,(by intro x h;cases h)⟩)⟩)⟩)⟩)
 (by intro x h;cases h)
 (List.forall_mem_cons.2 ⟨⟨⟨_,Tryz.func62,by kernel_rfl,rfl⟩,cMe⟩,(List.forall_mem_cons.2 ⟨⟨⟨_,Tryz.func65,by kernel_rfl,rfl⟩,outsAt⟩,(List.forall_mem_cons.2 ⟨⟨⟨_,Tryz.func66,by kernel_rfl,rfl⟩,cL5⟩,(List.forall_mem_cons.2 ⟨⟨⟨_,Tryz.func106,by kernel_rfl,rfl⟩,sort_do laySort⟩,(List.forall_mem_cons.2 ⟨⟨⟨_,Tryz.func107,by kernel_rfl,rfl⟩,cHd layCompact⟩,(List.forall_mem_cons.2 ⟨⟨⟨_,Tryz.func100,by kernel_rfl,rfl⟩,cut_do layDelete⟩,(List.forall_mem_cons.2 ⟨⟨⟨_,Tryz.func168,by kernel_rfl,rfl⟩,cJh laySortBy aggAt sizeAt cNe cmpAt⟩,(by intro x h;cases h)⟩)⟩)⟩)⟩)⟩)⟩)⟩)
 (List.forall_mem_cons.2 ⟨⟨⟨_,Tryz.func11,by kernel_rfl,rfl⟩,givenDo (by kernel_rfl) (by kernel_rfl) (by kernel_rfl) (by kernel_rfl) (by kernel_rfl)⟩,(List.forall_mem_cons.2 ⟨⟨⟨_,Tryz.func38,by kernel_rfl,rfl⟩,buildDo (by kernel_rfl) (by kernel_rfl) (bLm (t:=22) (te:=82) (b:=4) (e:=(.pair (.int .i64) (.int .i64))) Tryz.func39 rfl rfl rfl (by kernel_rfl) (by kernel_rfl) ⟨40,by kernel_rfl⟩).2 (bLm (t:=24) (te:=3) (b:=4) (e:=(.int .i64)) Tryz.func41 rfl rfl rfl (by kernel_rfl) (by kernel_rfl) ⟨40,by kernel_rfl⟩).2⟩,(List.forall_mem_cons.2 ⟨⟨⟨_,Tryz.func28,by kernel_rfl,rfl⟩,identDo (by kernel_rfl) (by kernel_rfl) (bLm (t:=24) (te:=3) (b:=4) (e:=(.int .i64)) Tryz.func41 rfl rfl rfl (by kernel_rfl) (by kernel_rfl) ⟨40,by kernel_rfl⟩).2⟩,(by intro x h;cases h)⟩)⟩)⟩)
 (by kernel_rfl)
theorem mixed:Tryz.prog.follows .mixedOrders=true:=by kernel_rfl
end
end Go.Proofs.YtjkoadoekaplpaaGreat

