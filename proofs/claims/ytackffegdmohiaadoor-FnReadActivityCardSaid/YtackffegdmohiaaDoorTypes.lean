/- How the structs of the program lie in cells, each as a plain record. No condition. -/
import Derived.Test.YtackffegdmohiaaDoorMem
namespace Go.Proofs.YtackffegdmohiaaDoor

structure Hnd where
  name : ByteArray
  host : ByteArray
structure Key3 where
  one : Int
  two : Int
  exp : Int
structure Act1 where
  kind : Int
  number : Int
  name : ByteArray
  host : ByteArray
  what : ByteArray
structure Fld where
  name : ByteArray
  val : Int
structure Actr where
  name : ByteArray
  feed : ByteArray
  sign : Int
structure Itm where
  key : ByteArray
  title : ByteArray
  body : ByteArray
  day : Int

def hndS : Shape Hnd := ⟨fun y => [.string y.name, .string y.host], 2, by decide, fun _ => rfl, fun x u hu => by simp at hu; rcases hu with rfl | rfl <;> rfl⟩
def keyS : Shape Key3 := ⟨fun y => [.int .i64 y.one, .int .i64 y.two, .int .i64 y.exp], 3, by decide, fun _ => rfl, fun x u hu => by simp at hu; rcases hu with rfl | rfl | rfl <;> rfl⟩
def actS : Shape Act1 := ⟨fun y => [.int .i64 y.kind, .int .i64 y.number, .string y.name, .string y.host, .string y.what], 5, by decide, fun _ => rfl, fun x u hu => by simp at hu; rcases hu with rfl | rfl | rfl | rfl | rfl <;> rfl⟩
def fldS : Shape Fld := ⟨fun y => [.string y.name, .int .i64 y.val], 2, by decide, fun _ => rfl, fun x u hu => by simp at hu; rcases hu with rfl | rfl <;> rfl⟩
def actrS : Shape Actr := ⟨fun y => [.string y.name, .string y.feed, .int .i64 y.sign], 3, by decide, fun _ => rfl, fun x u hu => by simp at hu; rcases hu with rfl | rfl | rfl <;> rfl⟩
def itmS : Shape Itm := ⟨fun y => [.string y.key, .string y.title, .string y.body, .int .i64 y.day], 4, by decide, fun _ => rfl, fun x u hu => by simp at hu; rcases hu with rfl | rfl | rfl | rfl <;> rfl⟩
def byteS : Shape UInt8 := ⟨fun n => [.int .u8 (n.toNat : Int)], 1, by decide, fun _ => rfl, fun x u hu => by simp at hu; subst hu; rfl⟩
def strS : Shape ByteArray := ⟨fun s => [.string s], 1, by decide, fun _ => rfl, fun x u hu => by simp at hu; subst hu; rfl⟩

end Go.Proofs.YtackffegdmohiaaDoor
