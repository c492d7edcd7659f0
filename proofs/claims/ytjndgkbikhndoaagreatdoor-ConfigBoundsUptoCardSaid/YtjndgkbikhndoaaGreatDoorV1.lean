/- Layer 13 (config), in plain words: which configurations are right. And tables in memory. -/
import Derived.Test.YtjndgkbikhndoaaGreatDoorUB
import Derived.Test.YtjndgkbikhndoaaGreatDoorTB
import Derived.Test.YtjndgkbikhndoaaGreatDoorV0
import Derived.Test.YtjndgkbikhndoaaGreatDoorE8
namespace Go.Proofs.YtjndgkbikhndoaaGreatDoor
open Go.RowKit Go.ChangeShapes Go.WideShapes
set_option linter.unusedVariables false

structure Mt where
  host : ByteArray
  pre : ByteArray
  methods : List ByteArray
  header : ByteArray
  value : ByteArray
structure Rt where
  m : Mt
  hosts : List Int
  rate : Int
  per : Int
  burst : Int
  opn : Int
  fails : Int
  cool : Int
  probes : Int
  percent : Int
  min : Int
  window : Int
  retries : Int
  hedges : Int
  hedgeAfter : Int
  perTry : Int
  total : Int
structure Ht where
  name : ByteArray
  cap : Int
  pend : Int
structure Cf where
  hosts : List Ht
  routes : List Rt
  every : Int
  timeout : Int
  up : Int
  down : Int
  path : ByteArray
  fails : Int
  base : Int
  longest : Int
  share : Int
  maxHead : Int
  maxBody : Int
  maxOut : Int
  headTime : Int
  idle : Int
  life : Int
  clients : Int
abbrev M6 : Int := 1000000
def hostOK (s : ByteArray) : Bool := decide (hostF s = (s, -1, 0))
def GETb : ByteArray := ⟨#[71, 69, 84]⟩
/-- A path, without a query, and without dots. -/
def placeOK (s : ByteArray) : Bool :=
  decide (s.size ≤ 8192) && Lib.hasPrefix s.data.toList [47] && locL (cutP s).data.toList (cutQ s).data.toList && !cutA s && decide (cleanF s = (s, 0))
def wildB (s : ByteArray) : ByteArray := ⟨(Lib.trimPrefix s.data.toList [42, 46]).toArray⟩
def wildOK (s : ByteArray) : Bool := Lib.hasPrefix s.data.toList [42, 46] && hostOK (wildB s)
def matchOK (m : Mt) : Bool :=
  (decide (m.host.size = 0) || hostOK m.host || wildOK m.host) && placeOK m.pre && decide (m.methods.length ≤ 8) && m.methods.all E.tokB
  && (if m.header.size = 0 then decide (m.value.size = 0) else E.tokB m.header && E.valB m.value)
def Rt.nums (r : Rt) : List (Int × Int × Int) :=
  [(r.rate, 0, M6), (r.per, 1, M6), (r.burst, 0, M6), (r.opn, 1, 1000), (r.fails, 0, 1000), (r.cool, 1, M6), (r.probes, 1, 100), (r.percent, 0, 100), (r.min, 0, 1000), (r.window, 1, M6), (r.retries, 0, 5), (r.hedges, 0, 3), (r.hedgeAfter, 1, M6), (r.perTry, 1, M6), (r.total, 1, M6)]
def routeOK (r : Rt) (n : Int) : Bool :=
  matchOK r.m && (decide (1 ≤ r.hosts.length) && decide (r.hosts.length ≤ 16)) && r.hosts.all (fun h => decide (0 ≤ h) && decide (h < n)) && decide r.hosts.Nodup && allR r.nums
def htOK (h : Ht) : Bool := hostOK h.name && allR [(h.cap, 1, 64), (h.pend, 0, 64)]
def Cf.nums (c : Cf) : List (Int × Int × Int) :=
  [(c.every, 0, M6), (c.timeout, 1, M6), (c.up, 1, 100), (c.down, 1, 100), (c.fails, 0, 1000), (c.base, 1, M6), (c.longest, max 1 c.base, M6), (c.share, 0, 100), (c.maxHead, 16, 65536), (c.maxBody, 0, 1048576), (c.maxOut, 1, 1048576), (c.headTime, 1, M6), (c.idle, 1, M6), (c.life, 1, M6), (c.clients, 1, 256)]
def pathOK (c : Cf) : Bool := (placeOK c.path && decide (c.path.size ≤ 8179)) || (decide (c.path.size = 0) && decide (c.every = 0))
def rightB (c : Cf) : Bool :=
  (decide (1 ≤ c.hosts.length) && decide (c.hosts.length ≤ 16)) && (decide (1 ≤ c.routes.length) && decide (c.routes.length ≤ 16))
  && c.hosts.all htOK && decide (c.hosts.map (·.name)).Nodup && c.routes.all (fun r => routeOK r c.hosts.length) && pathOK c && allR c.nums
def capsN (c : Cf) : Int := (c.hosts.map (·.cap)).sum
def connsN (c : Cf) : Int := c.clients + capsN c + c.hosts.length
def mostN (c : Cf) : Int := c.routes.foldl (fun m r => max m (r.retries + r.hedges + 1)) 0
def timersN (c : Cf) : Int := 4 * c.clients + 3 * capsN c + 3 * c.hosts.length + mostN c * c.clients
def bufN (c : Cf) : Int := c.clients * (2 * c.maxHead + c.maxBody + c.maxOut + 8192) + capsN c * (c.maxHead + c.maxBody + 8192)
/-- What lies in memory. -/
def htRow (h : Ht) : List Value := [.string h.name, .int .i64 h.cap, .int .i64 h.pend]
def rtRow (r : Rt) (mv hv : Value) : List Value :=
  [.string r.m.host, .string r.m.pre, mv, .string r.m.header, .string r.m.value, hv, .int .i64 r.rate, .int .i64 r.per, .int .i64 r.burst, .int .i64 r.opn, .int .i64 r.fails, .int .i64 r.cool, .int .i64 r.probes, .int .i64 r.percent, .int .i64 r.min, .int .i64 r.window, .int .i64 r.retries, .int .i64 r.hedges, .int .i64 r.hedgeAfter, .int .i64 r.perTry, .int .i64 r.total]
/-- A route's slices. -/
structure RtAt (w : World) (r : Rt) (mv hv : Value) : Prop where
  ms : Tbl w mv 1 (strRows r.m.methods)
  hs : Tbl w hv 1 (intRows r.hosts)
theorem RtAt.chg {w w' : World} {r : Rt} {mv hv : Value} (h : RtAt w r mv hv) (hc : Chg [] w w') : RtAt w' r mv hv := ⟨h.ms.chg hc, h.hs.chg hc⟩
/-- The routes: for each one where its slices lie. -/
structure RtsAt (w : World) (v : Value) (rs : List Rt) (ps : List (Value × Value)) : Prop where
  len : ps.length = rs.length
  tb : Tbl w v 21 ((rs.zip ps).map (fun x => rtRow x.1 x.2.1 x.2.2))
  each : ∀ (i : Nat) (r : Rt) (p : Value × Value), rs[i]? = some r → ps[i]? = some p → RtAt w r p.1 p.2
theorem RtsAt.chg {w w' : World} {v : Value} {rs : List Rt} {ps : List (Value × Value)} (h : RtsAt w v rs ps) (hc : Chg [] w w') : RtsAt w' v rs ps :=
  ⟨h.len, h.tb.chg hc, fun i r p hr hp => (h.each i r p hr hp).chg hc⟩
def cfRow (c : Cf) (hv rv : Value) : List Value :=
  [hv, rv, .int .i64 c.every, .int .i64 c.timeout, .int .i64 c.up, .int .i64 c.down, .string c.path, .int .i64 c.fails, .int .i64 c.base, .int .i64 c.longest, .int .i64 c.share, .int .i64 c.maxHead, .int .i64 c.maxBody, .int .i64 c.maxOut, .int .i64 c.headTime, .int .i64 c.idle, .int .i64 c.life, .int .i64 c.clients]
/-- A configuration's slices, and that no text in it is too long. -/
structure CfAt (w : World) (c : Cf) (hv rv : Value) (ps : List (Value × Value)) : Prop where
  hs : Tbl w hv 3 (c.hosts.map htRow)
  rs : RtsAt w rv c.routes ps
theorem CfAt.chg {w w' : World} {c : Cf} {hv rv : Value} {ps : List (Value × Value)} (h : CfAt w c hv rv ps) (hc : Chg [] w w') : CfAt w' c hv rv ps := ⟨h.hs.chg hc, h.rs.chg hc⟩
/-- Sizes. -/
structure MtSz (m : Mt) : Prop where
  host : m.host.size ≤ 1048576
  pre : m.pre.size ≤ 1048576
  ms : ∀ t, t ∈ m.methods → t.size ≤ 1048576
  mn : m.methods.length ≤ 1048576
  header : m.header.size ≤ 1048576
  value : m.value.size ≤ 1048576
structure RtSz (r : Rt) : Prop where
  m : MtSz r.m
  hn : r.hosts.length ≤ 1048576
structure CfSz (c : Cf) : Prop where
  hs : ∀ h, h ∈ c.hosts → h.name.size ≤ 1048576
  rs : ∀ r, r ∈ c.routes → RtSz r
  hn : c.hosts.length ≤ 1048576
  rn : c.routes.length ≤ 1048576
  path : c.path.size ≤ 1048576
end Go.Proofs.YtjndgkbikhndoaaGreatDoor
